/- The law MarkColours over the walked function. -/
import Derived.Test.YtnimidkeoocchaaPKMarkColours
import Derived.Test.YtnimidkeoocchaaStmMarkColours
namespace Go.Proofs.Ytnimidkeoocchaa.Mrk
open Go.RowKit Go.Proofs.YtnimidkeoocchaaW.PrintWords Go.Proofs.Ytnimidkeoocchaa.Opn Go.Proofs.Ytnimidkeoocchaa.PK
theorem i64_le {n : Int} (h : (Lit.int .i64 n).wf = true) : n ≤ 9223372036854775807 := by
  have h_ := h
  simp [Lit.wf] at h_
  exact h_.2
theorem markColours : MarkColoursS.MarkColours.Pure := by
  intro x0 x1 h0 h1
  refine ⟨0, ?_⟩
  unfold backstitchkeep3_MarkColours.f
  exact if_pos (fun x hx => i64_le (h1.2.2 x hx).2.2.2)
end Go.Proofs.Ytnimidkeoocchaa.Mrk
