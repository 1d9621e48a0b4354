/- The law OwnsEdges over the walked function. -/
import Derived.Test.YtoleplbmkdhgeaaStmOwnsEdges
namespace Go.Proofs.Ytoleplbmkdhgeaa.Own
open Go.RowKit Go.Proofs.YtoleplbmkdhgeaaW.PrintWords Go.Proofs.Ytoleplbmkdhgeaa.Opn Go.Proofs.Ytoleplbmkdhgeaa.PN
theorem ownsEdges : OwnsEdgesS.OwnsEdges.Pure := by
  intro x0 h
  exact ⟨0, rfl⟩
end Go.Proofs.Ytoleplbmkdhgeaa.Own
