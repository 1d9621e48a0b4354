/- The law MarkRaces over the walked function. -/
import Derived.Test.YtnimidkeoocchaaPKMarkRaces
import Derived.Test.YtnimidkeoocchaaStmMarkRaces
namespace Go.Proofs.Ytnimidkeoocchaa.Mrk
open Go.RowKit Go.Proofs.YtnimidkeoocchaaW.PrintWords Go.Proofs.Ytnimidkeoocchaa.Opn Go.Proofs.Ytnimidkeoocchaa.PK
theorem i64_le {n : Int} (h : (Lit.int .i64 n).wf = true) : n ≤ 9223372036854775807 := by
  have h_ := h
  simp [Lit.wf] at h_
  exact h_.2
theorem markRaces : MarkRacesS.MarkRaces.Pure := by
  intro x0 x1 x2 h0 h1 h2
  refine ⟨0, ?_⟩
  unfold backstitchkeep3_MarkRaces.f
  exact if_pos (fun x hx => i64_le (h1.2.2 x hx).2.2.2)
end Go.Proofs.Ytnimidkeoocchaa.Mrk
