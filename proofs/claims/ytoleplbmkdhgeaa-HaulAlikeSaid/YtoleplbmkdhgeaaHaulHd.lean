/- The closed fact hauled, walked. -/
import Derived.Test.YtoleplbmkdhgeaaHaulLw
set_option linter.unusedVariables false
set_option linter.unusedSimpArgs false
namespace Go.Proofs.Ytoleplbmkdhgeaa.Hal
open Go.RowKit Go.Proofs.YtoleplbmkdhgeaaW.PrintWords Go.Proofs.YtoleplbmkdhgeaaW.PrintLast Go.Proofs.YtoleplbmkdhgeaaW.PrintMore Go.Proofs.Ytoleplbmkdhgeaa.PQ Go.Proofs.Ytoleplbmkdhgeaa.Hnd Go.Proofs.Ytoleplbmkdhgeaa.Nb

set_option maxHeartbeats 16000000 in
set_option maxRecDepth 100000 in
theorem hauled_calls (w : World) : Calls Try.prog 28 #[] w fun e w' => e = .returned (.bool true) ∧ Below w.heap.size w w' := by
  let H0 := Obj.cells #[.int .u64 0, .int .u64 0] 57
  let H1 := Obj.cells #[.int .u64 18445899648779419649] 57
  have hb0 : Below w.heap.size w ((w.alloc H0).alloc H1) := below_alloc (below_alloc (Below.refl _ _) _) _
  have hk0 : ((w.alloc H0).alloc H1).heap[w.heap.size]? = some H0 := blk_alloc (heap_alloc_new w H0) H1
  have hk1 : ((w.alloc H0).alloc H1).heap[w.heap.size + 1]? = some H1 := by have h_ := heap_alloc_new (w.alloc H0) H1; simpa using h_
  have hcall := collect_h ((w.alloc H0).alloc H1) (some ⟨w.heap.size, 0, none⟩) 2 hW (some ⟨w.heap.size + 1, 0, none⟩) 1 hR (C_lit hk0 (by decide)) (by decide) (C_lit hk1 (by decide)) (by intro x hx; simp [hW] at hx; subst hx; unfold U64; omega) (by intro x hx; simp [hR] at hx; subst hx; unfold U64; omega)
  have HCALL := Aside0.mk hcall
  have HB0 := Aside0.mk hb0
  clear hcall hb0 hk0 hk1
  go_enter Try.func28, Try.ntmps28
  go_wp2_with fail
  refine HCALL.out.mono ?_
  rintro e w1 (⟨h0, _⟩ | ⟨h0, hh, c, fs, outs, vto, vouts, vold, rfl, hF, hr1, hr2, hr3, hb⟩)
  · exact (h0 hauled_chk).elim
  obtain ⟨e1, e2, e3⟩ := hauled_fin hF
  rw [e1] at hr1
  rw [e2] at hr2
  rw [e3] at hr3
  obtain ⟨A1, c1, rfl, hc1, hC1⟩ := Kd.R_reads hr1
  obtain ⟨A2, c2, rfl, hc2, hC2⟩ := Kd.R_reads hr2
  obtain ⟨A3, c3, rfl, hc3, hC3⟩ := Kd.R_reads hr3
  have HB1 : Aside0 (Below w.heap.size w w1) := ⟨HB0.out.trans (below_cut hb HB0.out.size)⟩
  have HC1 := Aside0.mk hC1
  have HC2 := Aside0.mk hC2
  have HC3 := Aside0.mk hC3
  have HL1 := Aside0.mk hc1
  have HL2 := Aside0.mk hc2
  have HL3 := Aside0.mk hc3
  clear hr1 hr2 hr3 hb hF hh h0 e1 e2 e3 hC1 hC2 hC3 hc1 hc2 hc3 HCALL HB0
  go_upto_region 2 with fail
  generalize hw2 : World.alloc _ _ = w2
  have hd2 : w2.heap[w1.heap.size]? = some (.cells #[.slice A1 1 c1, .slice A2 1 c2] 51 (0, 0)) := by
    rw [← hw2]
    exact heap_alloc_new _ _
  have hb2 : Below w1.heap.size w1 w2 := by
    rw [← hw2]
    exact below_alloc (Below.refl _ _) _
  have hq0 : w2.cell? ⟨w1.heap.size, 0, none⟩ = some (.slice A1 1 c1) := (blk_cell hd2 0).trans rfl
  have hb3 : Below w2.heap.size w2 (w2.alloc (Obj.cells #[.int .u64 0] 57)) := below_alloc (Below.refl _ _) _
  have hl3 := heap_alloc_new w2 (Obj.cells #[.int .u64 0] 57)
  have hcall := backstitchref3_Eq_uint64.calls 2 A1 c1 [0] (some ⟨w2.heap.size, 0, none⟩) 1 [0] true _ (Kd.C_below (Kd.C_below HC1.out hb2) hb3) HL1.out (C_lit (xs := [0]) hl3 (by decide)) (by decide) (by decide +kernel)
  have HCALL := Aside0.mk hcall
  have HD2 := Aside0.mk hd2
  have HB2 := Aside0.mk hb2
  have HB3 := Aside0.mk hb3
  clear hw2 hd2 hb2 hb3 hl3 hcall
  go_wp2_with fail
  refine HCALL.out.mono ?_
  rintro e w3 ⟨rfl, hb⟩
  have hb23 : Below w2.heap.size w2 w3 := below_step HB3.out hb.below
  have hd3 := blk_below HD2.out hb23
  have hq1 : w3.cell? ⟨w1.heap.size, 1, none⟩ = some (.slice A2 1 c2) := (blk_cell hd3 1).trans rfl
  have hb13 : Below w1.heap.size w1 w3 := below_step HB2.out hb23
  have hb4 : Below w3.heap.size w3 (w3.alloc (Obj.cells #[.int .u64 18445899648779419648] 57)) := below_alloc (Below.refl _ _) _
  have hl4 := heap_alloc_new w3 (Obj.cells #[.int .u64 18445899648779419648] 57)
  have hcall := backstitchref3_Eq_uint64.calls 2 A2 c2 [18445899648779419648] (some ⟨w3.heap.size, 0, none⟩) 1 [18445899648779419648] true _ (Kd.C_below (Kd.C_below HC2.out hb13) hb4) HL2.out (C_lit (xs := [18445899648779419648]) hl4 (by decide)) (by decide) (by decide +kernel)
  have HCALL2 := Aside0.mk hcall
  have HB4 := Aside0.mk hb4
  have HB13 := Aside0.mk hb13
  clear hb hb23 hd3 hb13 hb4 hl4 hcall HCALL hq0
  go_wp2_with fail
  refine HCALL2.out.mono ?_
  rintro e w4 ⟨rfl, hb⟩
  have hb14 : Below w1.heap.size w1 w4 := below_step HB13.out (below_step HB4.out hb.below)
  have hb5 : Below w4.heap.size w4 (w4.alloc (Obj.cells #[.int .i64 0, .int .i64 1] 56)) := below_alloc (Below.refl _ _) _
  have hl5 := heap_alloc_new w4 (Obj.cells #[.int .i64 0, .int .i64 1] 56)
  have hcall := api_RMove.calls 2 A3 c3 [⟨0, 1⟩] (some ⟨w4.heap.size, 0, none⟩) 1 [⟨0, 1⟩] true _ (Kd.C_below (Kd.C_below HC3.out hb14) hb5) HL3.out (C_block (cs := [.int .i64 0, .int .i64 1]) hl5 (k56_mk _ ⟨0, 1⟩)) (by decide) (by decide +kernel)
  have HCALL3 := Aside0.mk hcall
  have HB5 := Aside0.mk hb5
  have HB14 := Aside0.mk hb14
  clear hb hb14 hb5 hl5 hcall HCALL2 hq1
  go_wp2_with fail
  refine HCALL3.out.mono ?_
  rintro e w5 ⟨rfl, hb⟩
  have HB6 : Aside0 (Below w.heap.size w w5) := ⟨HB1.out.trans (below_cut (below_step HB14.out (below_step HB5.out hb)) HB1.out.size)⟩
  clear hb
  go_wp2
  go_ret
  exact ⟨rfl, HB6.out⟩
end Go.Proofs.Ytoleplbmkdhgeaa.Hal
