/- The law HaulAlike over the walked function. -/
import Derived.Test.YtoleplbmkdhgeaaPQHaulAlike
import Derived.Test.YtoleplbmkdhgeaaStmHaulAlike
namespace Go.Proofs.Ytoleplbmkdhgeaa.Hal
open Go.RowKit Go.Proofs.YtoleplbmkdhgeaaW.PrintWords Go.Proofs.Ytoleplbmkdhgeaa.Opn Go.Proofs.Ytoleplbmkdhgeaa.PQ Go.Proofs.Ytoleplbmkdhgeaa.Nb
theorem haulAlike : HaulAlikeS.HaulAlike.Pure := by
  intro x0 h
  refine ⟨0, ?_⟩
  unfold backstitchkeep3_HaulAlike.f
  exact if_pos ⟨fun x hx => u64_wf (h.1.2.2 x hx), fun x hx => u64_wf (h.2.2.2 x hx)⟩
end Go.Proofs.Ytoleplbmkdhgeaa.Hal
