/- Package haul: facts for HaulWhole. -/
import Derived.Test.YtoleplbmkdhgeaaHaulMo
import Derived.Test.YtoleplbmkdhgeaaNbBox
set_option linter.unusedVariables false
set_option linter.unusedSimpArgs false
namespace Go.Proofs.Ytoleplbmkdhgeaa.Hal
open Go.RowKit Go.Proofs.YtoleplbmkdhgeaaW.PrintWords Go.Proofs.YtoleplbmkdhgeaaW.PrintLast Go.Proofs.YtoleplbmkdhgeaaW.PrintMore Go.Proofs.Ytoleplbmkdhgeaa.PQ Go.Proofs.Ytoleplbmkdhgeaa.Hnd Go.Proofs.Ytoleplbmkdhgeaa.Nb

theorem refs_chk {fr rs objs : List Int} (H : Heap fr rs objs) (hl : objs.length ≤ 100) : chkE fr (objs.map refW) objs true = 0 := by
  obtain ⟨h1, h2, h3, h4, h5⟩ := chk_ok H.chk
  refine chk_of h1 (by rw [List.length_map]; exact hl) h4 (fun y hy => ?_)
  obtain ⟨u, hu, rfl⟩ := List.mem_map.1 hy
  have hf := H.ok.fit u hu
  obtain ⟨r1, r2, r3, r4⟩ := refW_is (u := u) (by omega) (by have := H.len; omega)
  unfold rightB
  rw [r4, r1, r2, mem_iff.2 hu]; rfl
theorem refs_u64 {fr rs objs : List Int} (H : Heap fr rs objs) : ∀ y ∈ objs.map refW, U64 y := by
  intro y hy
  obtain ⟨u, hu, rfl⟩ := List.mem_map.1 hy
  have hf := H.ok.fit u hu
  exact (refW_is (u := u) (by omega) (by have := H.len; omega)).2.2.1
theorem refs_all {fr rs objs : List Int} (H : Heap fr rs objs) : ∀ p ∈ objs, ∃ y ∈ objs.map refW, isRef y = true ∧ plN y = p := by
  intro u hu
  have hf := H.ok.fit u hu
  obtain ⟨r1, r2, r3, r4⟩ := refW_is (u := u) (by omega) (by have := H.len; omega)
  exact ⟨refW u, List.mem_map.2 ⟨u, hu, rfl⟩, r1, r2⟩
theorem box_ref {u : Int} (h0 : 0 ≤ u) (h1 : u ≤ 4294967295) : nanbox_Box.f 2 5 u = some (refW u, 0) := by
  have hb : (bx 5 u).2 = 0 := (bx_err 5 u).2 ⟨by decide, by decide, .inr ⟨by simp [lo]; omega, by simp [hi]; omega⟩⟩
  rw [box_f 2 5 u (by omega)]
  unfold refW
  rw [← hb]
end Go.Proofs.Ytoleplbmkdhgeaa.Hal
