/- The law HaulWhole over the walked function. -/
import Derived.Test.YtoleplbmkdhgeaaPQHaulWhole
import Derived.Test.YtoleplbmkdhgeaaStmHaulWhole
namespace Go.Proofs.Ytoleplbmkdhgeaa.Hal
open Go.RowKit Go.Proofs.YtoleplbmkdhgeaaW.PrintWords Go.Proofs.Ytoleplbmkdhgeaa.Opn Go.Proofs.Ytoleplbmkdhgeaa.PQ Go.Proofs.Ytoleplbmkdhgeaa.Nb
theorem haulWhole : HaulWholeS.HaulWhole.Pure := by
  intro x0 h
  refine ⟨0, ?_⟩
  unfold backstitchkeep3_HaulWhole.f
  exact if_pos ⟨fun x hx => u64_wf (h.1.2.2 x hx), fun x hx => u64_wf (h.2.2.2 x hx)⟩
end Go.Proofs.Ytoleplbmkdhgeaa.Hal
