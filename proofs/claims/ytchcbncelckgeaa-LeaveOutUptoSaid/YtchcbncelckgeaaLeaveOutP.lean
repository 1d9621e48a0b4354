/- The law LeaveOut over the walked function. -/
import Derived.Test.YtchcbncelckgeaaStmLeaveOut
set_option linter.unusedVariables false
namespace Go.Proofs.Ytchcbncelckgeaa.Lvo
open Go.RowKit Go.Proofs.YtchcbncelckgeaaW.PrintWords Go.Proofs.Ytchcbncelckgeaa.OpnB Go.Proofs.Ytchcbncelckgeaa.PM Go.Proofs.Ytchcbncelckgeaa.LeavePM LeaveOutS
theorem smF_m (f : S27) (h : m27 f ≤ 1048576) : SmF f := by
  have h5 : f.f5.length ≤ (f.f5.map m23).sum := len_le _ (fun _ => by simp [m23]) _
  have h6 : f.f6.length ≤ (f.f6.map m111).sum := len_le _ (fun _ => by simp [m111]) _
  simp only [m27, mList] at h
  exact ⟨by omega, by omega⟩
theorem smFs_m (l : List S27) (h : mList m27 l ≤ 1048576) : l.length ≤ 1048576 ∧ ∀ f ∈ l, SmF f := by
  have h3 : l.length ≤ (l.map m27).sum := len_le _ (fun _ => by simp [m27]) _
  simp only [mList] at h
  exact ⟨by omega, fun f hf => smF_m f (by have := mem_le m27 hf; omega)⟩
theorem sm_m (c : S50) (h : m50 c ≤ 1048576) : Sm c := by
  have h2 : c.f2.length ≤ (c.f2.map m23).sum := len_le _ (fun _ => by simp [m23]) _
  have h3 : mList m27 c.f3 ≤ 1048576 := by simp only [m50] at h; omega
  simp only [m50, mList] at h
  have h4 := smFs_m _ h3
  exact ⟨by omega, h4.1, fun f hf => h4.2 f hf⟩
theorem smS_m (x : S57) (h : m57 x ≤ 1048576) : SmS x.f0 x.f1 x.f2 x.f3 x.f4 x.f5 := by
  have h0 : x.f0.length ≤ (x.f0.map m50).sum := len_le _ (fun _ => by simp [m50]) _
  have h1 : x.f1.length ≤ (x.f1.map m68).sum := len_le _ (fun _ => by simp [m68]) _
  have h2 : x.f2.length ≤ (x.f2.map mStr).sum := len_le _ (fun _ => by simp [mStr]) _
  have h3 : x.f3.length ≤ (x.f3.map m62).sum := len_le _ (fun _ => by simp [m62]) _
  have h4 : x.f4.length ≤ (x.f4.map m71).sum := len_le _ (fun _ => by simp [m71]) _
  have h5 : x.f5.length ≤ (x.f5.map m23).sum := len_le _ (fun _ => by simp [m23]) _
  simp only [m57, mList] at h
  refine ⟨by omega, fun c hc => sm_m c (by have := mem_le m50 hc; omega), by omega, by omega, by omega, fun t ht => ?_, by omega, by omega⟩
  have h6 := mem_le m62 ht
  exact smFs_m _ (by simp only [m62] at h6; omega)
theorem smX_m (x : S31) (h : m31 x ≤ 1048576) : SmX x.f2 x.f3 := by
  have h2 : x.f2.length ≤ (x.f2.map m34).sum := len_le _ (fun _ => by simp [m34]) _
  have h3 : x.f3.length ≤ (x.f3.map m46).sum := len_le _ (fun _ => by simp [m46]) _
  simp only [m31, mList] at h
  refine ⟨by omega, by omega, fun m hm => ?_⟩
  have h4 := mem_le m46 hm
  have h5 : m.f3.length ≤ (m.f3.map mOne).sum := len_le _ (fun _ => by simp [mOne]) _
  simp only [m46, mList] at h4
  omega
theorem leaveOut : LeaveOutS.LeaveOut.Pure := by
  intro x0 x1 x2 x3 _ _ _ _ hz
  refine ⟨0, ?_⟩
  unfold backstitchkeep3_LeaveOut.f
  rw [if_pos ⟨smS_m x0 (by omega), smX_m x2 (by omega)⟩]
end Go.Proofs.Ytchcbncelckgeaa.Lvo
