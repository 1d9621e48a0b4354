/- The law GensBarrier over the walked function. -/
import Derived.Test.YtnimidkeoocchaaPGGensBarrier
import Derived.Test.YtnimidkeoocchaaStmGensBarrier
namespace Go.Proofs.Ytnimidkeoocchaa.Gen
open Go.RowKit Go.Proofs.YtnimidkeoocchaaW.PrintWords Go.Proofs.Ytnimidkeoocchaa.Opn Go.Proofs.Ytnimidkeoocchaa.PG
theorem gensBarrier : GensBarrierS.GensBarrier.Pure := by
  intro x0 x1 h0 h1
  exact ⟨0, rfl⟩
end Go.Proofs.Ytnimidkeoocchaa.Gen
