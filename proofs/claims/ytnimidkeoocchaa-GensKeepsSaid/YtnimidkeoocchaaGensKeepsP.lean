/- The law GensKeeps over the walked function. -/
import Derived.Test.YtnimidkeoocchaaPGGensKeeps
import Derived.Test.YtnimidkeoocchaaStmGensKeeps
namespace Go.Proofs.Ytnimidkeoocchaa.Gen
open Go.RowKit Go.Proofs.YtnimidkeoocchaaW.PrintWords Go.Proofs.Ytnimidkeoocchaa.Opn Go.Proofs.Ytnimidkeoocchaa.PG
theorem gensKeeps : GensKeepsS.GensKeeps.Pure := by
  intro x0 x1 h0 h1
  exact ⟨0, rfl⟩
end Go.Proofs.Ytnimidkeoocchaa.Gen
