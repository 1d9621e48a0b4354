/- The law OwnsTree over the walked function. -/
import Derived.Test.YtoleplbmkdhgeaaStmOwnsTree
namespace Go.Proofs.Ytoleplbmkdhgeaa.Own
open Go.RowKit Go.Proofs.YtoleplbmkdhgeaaW.PrintWords Go.Proofs.Ytoleplbmkdhgeaa.Opn Go.Proofs.Ytoleplbmkdhgeaa.PN
theorem ownsTree : OwnsTreeS.OwnsTree.Pure := by
  intro x0 h
  exact ⟨0, rfl⟩
end Go.Proofs.Ytoleplbmkdhgeaa.Own
