/- The law HaulRoots over the walked function. -/
import Derived.Test.YtoleplbmkdhgeaaPQHaulRoots
import Derived.Test.YtoleplbmkdhgeaaStmHaulRoots
namespace Go.Proofs.Ytoleplbmkdhgeaa.Hal
open Go.RowKit Go.Proofs.YtoleplbmkdhgeaaW.PrintWords Go.Proofs.Ytoleplbmkdhgeaa.Opn Go.Proofs.Ytoleplbmkdhgeaa.PQ Go.Proofs.Ytoleplbmkdhgeaa.Nb
theorem haulRoots : HaulRootsS.HaulRoots.Pure := by
  intro x0 x1 h _
  refine ⟨0, ?_⟩
  unfold backstitchkeep3_HaulRoots.f
  exact if_pos ⟨fun x hx => u64_wf (h.1.2.2 x hx), fun x hx => u64_wf (h.2.2.2 x hx)⟩
end Go.Proofs.Ytoleplbmkdhgeaa.Hal
