/- The law GensAny over the walked function. -/
import Derived.Test.YtnimidkeoocchaaPGGensAny
import Derived.Test.YtnimidkeoocchaaStmGensAny
namespace Go.Proofs.Ytnimidkeoocchaa.Gen
open Go.RowKit Go.Proofs.YtnimidkeoocchaaW.PrintWords Go.Proofs.Ytnimidkeoocchaa.Opn Go.Proofs.Ytnimidkeoocchaa.PG
theorem gensAny : GensAnyS.GensAny.Pure := by
  intro x0 x1 x2 h0 h1 h2
  exact ⟨0, rfl⟩
end Go.Proofs.Ytnimidkeoocchaa.Gen
