/- The law GensCounts over the walked function. -/
import Derived.Test.YtnimidkeoocchaaPGGensCounts
import Derived.Test.YtnimidkeoocchaaStmGensCounts
namespace Go.Proofs.Ytnimidkeoocchaa.Gen
open Go.RowKit Go.Proofs.YtnimidkeoocchaaW.PrintWords Go.Proofs.Ytnimidkeoocchaa.Opn Go.Proofs.Ytnimidkeoocchaa.PG
theorem gensCounts : GensCountsS.GensCounts.Pure := by
  intro x0 x1 h0 h1
  exact ⟨0, rfl⟩
end Go.Proofs.Ytnimidkeoocchaa.Gen
