/- The law LiveLast over the walked function. -/
import Derived.Test.YtchcbncelckgeaaStmLiveLast
set_option linter.unusedVariables false
namespace Go.Proofs.Ytchcbncelckgeaa.Lv
open Go.RowKit Go.Proofs.YtchcbncelckgeaaW.PrintWords Go.Proofs.Ytchcbncelckgeaa.OpnB Go.Proofs.Ytchcbncelckgeaa.PZ LiveLastS
theorem sum_m (l : List S46) : (l.map (fun m => m.f3.length + 2)).sum ≤ (l.map m46).sum := by
  induction l with
  | nil => simp
  | cons m l ih =>
    rw [List.map_cons, List.map_cons, List.sum_cons, List.sum_cons]
    have h5 : m.f3.length ≤ (m.f3.map mOne).sum := len_le _ (fun _ => by simp [mOne]) _
    have h6 : m46 m = (1 + (1 + (1 + (((mList mOne) m.f3))))) + 1 := rfl
    have h7 : mList mOne m.f3 = (m.f3.map mOne).sum + 1 := rfl
    omega
theorem big_m (x : S31) (h : m31 x ≤ 1048576) : bigX x ≤ 1048576 := by
  have h2 : x.f2.length ≤ (x.f2.map m34).sum := len_le _ (fun _ => by simp [m34]) _
  have h3 := sum_m x.f3
  have h6 : m31 x = (1 + (1 + (((mList m34) x.f2) + (((mList m46) x.f3))))) + 1 := rfl
  have h7 : mList m34 x.f2 = (x.f2.map m34).sum + 1 := rfl
  have h8 : mList m46 x.f3 = (x.f3.map m46).sum + 1 := rfl
  show x.f2.length + (x.f3.map (fun m => m.f3.length + 2)).sum ≤ 1048576
  omega
theorem liveLast : LiveLastS.LiveLast.Pure := by
  intro x0 _ hz
  refine ⟨0, ?_⟩
  unfold backstitchkeep3_LiveLast.f
  rw [if_pos]
  have h3 : x0.f3.length ≤ (x0.f3.map m103).sum := len_le _ (fun _ => by simp [m103]) _
  have h4 : x0.f4.length ≤ (x0.f4.map m31).sum := len_le _ (fun _ => by simp [m31]) _
  simp only [m97, mList] at hz
  exact ⟨by show x0.f3.length ≤ _; omega, by show x0.f4.length ≤ _; omega, fun x (hx : x ∈ x0.f4) => big_m x (by have := mem_le m31 hx; omega), big_m x0.f5 (by omega), big_m x0.f6 (by omega)⟩
end Go.Proofs.Ytchcbncelckgeaa.Lv
