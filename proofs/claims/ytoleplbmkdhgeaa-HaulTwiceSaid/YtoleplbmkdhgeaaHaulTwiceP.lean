/- The law HaulTwice over the walked function. -/
import Derived.Test.YtoleplbmkdhgeaaPQHaulTwice
import Derived.Test.YtoleplbmkdhgeaaStmHaulTwice
namespace Go.Proofs.Ytoleplbmkdhgeaa.Hal
open Go.RowKit Go.Proofs.YtoleplbmkdhgeaaW.PrintWords Go.Proofs.Ytoleplbmkdhgeaa.Opn Go.Proofs.Ytoleplbmkdhgeaa.PQ Go.Proofs.Ytoleplbmkdhgeaa.Nb
theorem haulTwice : HaulTwiceS.HaulTwice.Pure := by
  intro x0 h
  refine ⟨0, ?_⟩
  unfold backstitchkeep3_HaulTwice.f
  exact if_pos ⟨fun x hx => u64_wf (h.1.2.2 x hx), fun x hx => u64_wf (h.2.2.2 x hx)⟩
end Go.Proofs.Ytoleplbmkdhgeaa.Hal
