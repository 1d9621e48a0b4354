/- The law OrderExits over the walked function. -/
import Derived.Test.YtecaemebamhamaaStmOrderExits
set_option linter.unusedVariables false
namespace Go.Proofs.Ytecaemebamhamaa.Lv
open Go.RowKit Go.Proofs.YtecaemebamhamaaW.PrintWords Go.Proofs.Ytecaemebamhamaa.OpnB Go.Proofs.Ytecaemebamhamaa.PO OrderExitsS
theorem sum_m (l : List S118) : (l.map (fun m => m.f3.length + 2)).sum ≤ (l.map m118).sum := by
  induction l with
  | nil => simp
  | cons m l ih =>
    rw [List.map_cons, List.map_cons, List.sum_cons, List.sum_cons]
    have h5 : m.f3.length ≤ (m.f3.map m59).sum := len_le _ (fun _ => by simp [m59]) _
    have h6 : m118 m = (m59 m.f0 + (1 + (1 + (((mList m59) m.f3))))) + 1 := rfl
    have h7 : mList m59 m.f3 = (m.f3.map m59).sum + 1 := rfl
    omega
theorem big_m (x : S27) (h : m27 x ≤ 1048576) : bigX x ≤ 1048576 := by
  have h2 : x.f2.length ≤ (x.f2.map m126).sum := len_le _ (fun _ => by simp [m126]) _
  have h3 := sum_m x.f3
  have h6 : m27 x = (1 + (1 + (((mList m126) x.f2) + (((mList m118) x.f3))))) + 1 := rfl
  have h7 : mList m126 x.f2 = (x.f2.map m126).sum + 1 := rfl
  have h8 : mList m118 x.f3 = (x.f3.map m118).sum + 1 := rfl
  show x.f2.length + (x.f3.map (fun m => m.f3.length + 2)).sum ≤ 1048576
  omega
theorem orderExits : OrderExitsS.OrderExits.Pure := by
  intro x0 _ hz
  refine ⟨0, ?_⟩
  unfold backstitchkeep3_OrderExits.f
  rw [if_pos]
  have h3 : x0.f4.length ≤ (x0.f4.map m37).sum := len_le _ (fun _ => by simp [m37]) _
  have h4 : x0.f5.length ≤ (x0.f5.map m27).sum := len_le _ (fun _ => by simp [m27]) _
  simp only [m29, mList] at hz
  exact ⟨by show x0.f4.length ≤ _; omega, by show x0.f5.length ≤ _; omega, fun x (hx : x ∈ x0.f5) => big_m x (by have := mem_le m27 hx; omega), big_m x0.f6 (by omega), big_m x0.f7 (by omega)⟩
end Go.Proofs.Ytecaemebamhamaa.Lv
