/- The law function HaulRoots: what it answers. -/
import Derived.Test.YtoleplbmkdhgeaaHaulMo
import Derived.Deep.DeepCutAuto
set_option linter.unusedVariables false
set_option linter.unusedSimpArgs false
namespace Go.Proofs.Ytoleplbmkdhgeaa.PQ
open Go.RowKit Go.Proofs.YtoleplbmkdhgeaaW.PrintWords Go.Proofs.YtoleplbmkdhgeaaW.PrintLast Go.Proofs.YtoleplbmkdhgeaaW.PrintMore Go.Proofs.Ytoleplbmkdhgeaa.Hnd Go.Proofs.Ytoleplbmkdhgeaa.Hal

open Classical in
noncomputable def backstitchkeep3_HaulRoots.f (k : Nat) (l0_0 l0_1 : List Int) (a1 : Int) : Option Bool := if (∀ x ∈ l0_0, U64 x) ∧ (∀ x ∈ l0_1, U64 x) then some true else none
set_option maxHeartbeats 16000000 in
set_option maxRecDepth 100000 in
theorem backstitchkeep3_HaulRoots.calls (k : Nat) (A0_0 : Option Addr) (c0_0 : Nat) (l0_0 : List Int) (A0_1 : Option Addr) (c0_1 : Nat) (l0_1 : List Int) (a1 : Int) (r : Bool) (w : World)
    (hr0_0 : Kd.C (Kd.int .u64) w A0_0 l0_0.length l0_0) (hc0_0 : l0_0.length ≤ c0_0) (hr0_1 : Kd.C (Kd.int .u64) w A0_1 l0_1.length l0_1) (hc0_1 : l0_1.length ≤ c0_1) (h : backstitchkeep3_HaulRoots.f k l0_0 l0_1 a1 = some r) :
    Calls Try.prog 11 #[.agg #[.slice A0_0 l0_0.length c0_0, .slice A0_1 l0_1.length c0_1], .int .i64 a1] w fun e w' => e = .returned (.bool r) ∧ Below w.heap.size w w' := by
  unfold backstitchkeep3_HaulRoots.f at h
  have hok : (∀ x ∈ l0_0, U64 x) ∧ (∀ x ∈ l0_1, U64 x) := by
    by_cases hx : (∀ x ∈ l0_0, U64 x) ∧ (∀ x ∈ l0_1, U64 x)
    · exact hx
    · rw [if_neg hx] at h; exact absurd h (by simp)
  rw [if_pos hok] at h
  obtain rfl := Option.some.inj h
  have H0 := Aside0.mk hr0_0
  have H1 := Aside0.mk hr0_1
  have C0 := Aside0.mk hc0_0
  have C1 := Aside0.mk hc0_1
  have HU := Aside0.mk hok.1
  have HV := Aside0.mk hok.2
  have hb0 : Below w.heap.size w (w.alloc (Obj.cells #[.slice A0_0 l0_0.length c0_0, .slice A0_1 l0_1.length c0_1] 51)) := below_alloc (Below.refl _ _) _
  have hk0 := heap_alloc_new w (Obj.cells #[.slice A0_0 l0_0.length c0_0, .slice A0_1 l0_1.length c0_1] 51)
  have HB0 := Aside0.mk hb0
  have HK0 := Aside0.mk hk0
  clear h hok hr0_0 hr0_1 hc0_0 hc0_1 hb0 hk0
  go_enter Try.func11, Try.ntmps11
  go_wp2_with fail
  refine (hauled_calls _).mono ?_
  rintro e w1 ⟨rfl, hb⟩
  have hk1 := blk_below HK0.out hb
  have HK1 := Aside0.mk hk1
  have HB1 : Aside0 (Below w.heap.size w w1) := ⟨below_step HB0.out hb⟩
  have hq0 : w1.cell? ⟨w.heap.size, 0, none⟩ = some (.slice A0_0 l0_0.length c0_0) := (blk_cell hk1 0).trans rfl
  have hq1 : w1.cell? ⟨w.heap.size, 1, none⟩ = some (.slice A0_1 l0_1.length c0_1) := (blk_cell hk1 1).trans rfl
  clear hb hk1 HB0 HK0
  go_wp2_with fail
  refine (collect_h w1 A0_0 c0_0 l0_0 A0_1 c0_1 l0_1 (Kd.C_below H0.out HB1.out) C0.out (Kd.C_below H1.out HB1.out) HU.out HV.out).mono ?_
  clear hq0 hq1
  rintro e w2 (⟨h0, rfl, hb⟩ | ⟨h0, hh, c, fs, outs, vto, vouts, vold, rfl, hF, hr1, hr2, hr3, hb⟩)
  · have HB2 : Aside0 (Below w.heap.size w w2) := ⟨HB1.out.trans (below_cut hb HB1.out.size)⟩
    generalize chkE l0_0 l0_1 (objF l0_0).1 (objF l0_0).2 = E at h0 ⊢
    have hd : (E != 0) = true := by simp [h0]
    have hd2 : decide (E = 0) = false := decide_eq_false h0
    clear hb h0
    go_wp2_with fail
    refine (hauled_calls _).mono ?_
    rintro e w3 ⟨rfl, hb⟩
    have HB3 : Aside0 (Below w.heap.size w w3) := ⟨by
      refine Below.trans ?_ (below_cut hb ?_)
      · exact below_alloc HB2.out _
      · exact Nat.le_trans HB2.out.size (by simp)⟩
    clear hb
    go_wp2
    go_ret
    exact ⟨rfl, HB3.out⟩
  have HH := Aside0.mk hh
  have HF := Aside0.mk hF
  have HE := Aside0.mk h0
  obtain ⟨A1, c1, rfl, hc1, hC1⟩ := Kd.R_reads hr1
  obtain ⟨A2, c2, rfl, hc2, hC2⟩ := Kd.R_reads hr2
  obtain ⟨A3, c3, rfl, hc3, hC3⟩ := Kd.R_reads hr3
  have HC3 := Aside0.mk hC3
  have HK2 : Aside0 (w2.heap[w.heap.size]? = some (.cells #[.slice A0_0 l0_0.length c0_0, .slice A0_1 l0_1.length c0_1] 51 (0, 0))) := ⟨blk_below HK1.out hb⟩
  have HB2 : Aside0 (Below w.heap.size w w2) := ⟨HB1.out.trans (below_cut hb HB1.out.size)⟩
  clear h0 hb hr1 hr2 hr3 hC1 hC2 hC3 hc1 hc2 hc3 hh hF HB1 HK1
  go_upto_region 6 with fail
  generalize hw3 : World.alloc _ _ = w3
  have hb3 : Below w2.heap.size w2 w3 := by
    rw [← hw3]
    exact below_alloc (Below.refl _ _) _
  have hk3 := blk_below HK2.out hb3
  have HK3 := Aside0.mk hk3
  have HB3 : Aside0 (Below w.heap.size w w3) := ⟨HB2.out.trans (below_cut hb3 HB2.out.size)⟩
  have HC33 : Aside0 (Kd.C k56 w3 A3 c.mvs.length c.mvs) := ⟨Kd.C_below HC3.out hb3⟩
  have hq0 : w3.cell? ⟨w.heap.size, 0, none⟩ = some (.slice A0_0 l0_0.length c0_0) := (blk_cell hk3 0).trans rfl
  have hck : chkE l0_0 [] (objF l0_0).1 (objF l0_0).2 = 0 := chk_sub HE.out (by simp) (by simp)
  have HCALL := Aside0.mk (collect_h w3 A0_0 c0_0 l0_0 none 0 [] (Kd.C_below H0.out HB3.out) C0.out (C_nothing _ _) HU.out (by simp))
  have HCK := Aside0.mk hck
  clear hw3 hb3 hk3 hck HK2 HB2 HC3
  go_wp2_with fail
  refine HCALL.out.mono ?_
  clear hq0
  rintro e w4 (⟨h0, _⟩ | ⟨h0, hh2, cc, fs2, outs2, vto2, vouts2, vold2, rfl, hF2, hr1, hr2, hr3, hb⟩)
  · exact (h0 HCK.out).elim
  obtain ⟨g1, g2, g3⟩ := fin_none hF2
  obtain ⟨A4, c4, rfl, hc4, hC4⟩ := Kd.R_reads hr1
  obtain ⟨A5, c5, rfl, hc5, hC5⟩ := Kd.R_reads hr2
  obtain ⟨A6, c6, rfl, hc6, hC6⟩ := Kd.R_reads hr3
  have hz1 : cc.dst.length = 0 := by rw [g2]; rfl
  have hz2 : cc.mvs.length = 0 := by rw [g1]; rfl
  generalize cc.dst.length = n4 at hz1 ⊢
  generalize cc.mvs.length = n6 at hz2 ⊢
  have HK4 : Aside0 (w4.heap[w.heap.size]? = some (.cells #[.slice A0_0 l0_0.length c0_0, .slice A0_1 l0_1.length c0_1] 51 (0, 0))) := ⟨blk_below HK3.out hb⟩
  have HB4 : Aside0 (Below w.heap.size w w4) := ⟨HB3.out.trans (below_cut hb HB3.out.size)⟩
  have HC34 : Aside0 (Kd.C k56 w4 A3 c.mvs.length c.mvs) := ⟨Kd.C_below HC33.out hb⟩
  have HZ := Aside0.mk (And.intro hz1 hz2)
  clear hr1 hr2 hr3 hC4 hC5 hC6 hc4 hc5 hc6 hb g1 g2 g3 hF2 hh2 h0 HCALL HCK hz1 hz2 HK3 HB3 HC33
  go_upto_region 7 with fail
  generalize hw5 : World.alloc _ _ = w5
  have hd5 : w5.heap[w4.heap.size]? = some (.cells #[.slice A4 n4 c4, .slice A5 outs2.length c5] 51 (0, 0)) := by
    rw [← hw5]
    exact heap_alloc_new _ _
  have hb5 : Below w4.heap.size w4 w5 := by
    rw [← hw5]
    exact below_alloc (Below.refl _ _) _
  have hk5 := blk_below HK4.out hb5
  have HK5 := Aside0.mk hk5
  have HD5 := Aside0.mk hd5
  have HB5 : Aside0 (Below w.heap.size w w5) := ⟨HB4.out.trans (below_cut hb5 HB4.out.size)⟩
  have HC35 : Aside0 (Kd.C k56 w5 A3 c.mvs.length c.mvs) := ⟨Kd.C_below HC34.out hb5⟩
  have hq0 : w5.cell? ⟨w.heap.size, 0, none⟩ = some (.slice A0_0 l0_0.length c0_0) := (blk_cell hk5 0).trans rfl
  have hq1 : w5.cell? ⟨w.heap.size, 1, none⟩ = some (.slice A0_1 l0_1.length c0_1) := (blk_cell hk5 1).trans rfl
  obtain ⟨n, hn, hnl⟩ := rest_n a1 (l0_1.length + 1) (by omega) (by have := HH.out.rlen; omega)
  have hw64 : wrap64 ((l0_1.length : Int) + 1) = ((l0_1.length + 1 : Nat) : Int) := by have := HH.out.rlen; unfold wrap64; omega
  rw [← hw64] at hn
  have HN := Aside0.mk hn
  have HNL : Aside0 (n ≤ l0_1.length) := ⟨by omega⟩
  have hp0 : ((0 : Int) ≤ (n : Int)) = True := eq_true (by omega)
  have hp2 : ((n : Int) ≤ (c0_1 : Int)) = True := eq_true (by have h1_ := HNL.out; have h2_ := C1.out; omega)
  have htn : ((n : Int)).toNat = n := Int.toNat_natCast n
  have HCALL : Aside0 (∀ W, Below w5.heap.size w5 W → Calls Try.prog 29 #[.agg #[.slice A0_0 l0_0.length c0_0, .slice A0_1 n c0_1]] W (PartOk W c.mvs)) := ⟨fun W hW => part_calls W A0_0 c0_0 l0_0 A0_1 c0_1 l0_1 outs c fs n (Kd.C_below H0.out (HB5.out.trans (below_cut hW HB5.out.size))) C0.out (Kd.C_below H1.out (HB5.out.trans (below_cut hW HB5.out.size))) HU.out HV.out HE.out HF.out HNL.out⟩
  clear hw5 hd5 hb5 hk5 hn hnl hw64 HK4 HB4 HC34
  refine start_ (n := 21) (S := fun w' => Below w5.heap.size w5 w' ∧ w'.cell? ⟨w.heap.size, 0, none⟩ = some (.slice A0_0 l0_0.length c0_0) ∧ w'.cell? ⟨w.heap.size, 1, none⟩ = some (.slice A0_1 l0_1.length c0_1)) (ds := [18]) #[false, false, false, false, false, false, false, false, false, false, false, false, false, false, false, false, false, false, false, false, false] (by kernel_rfl) rfl rfl ⟨(below_drew (Below.refl _ _)), hq0, hq1⟩ (fun hHeld => ?_)
  generalize w5.drew = w16 at hHeld ⊢
  refine pure_ (i := 0) (N := some 39) (v := ?_) (a' := ?_) #[true, false, false, false, false, false, false, false, false, false, false, false, false, false, false, false, false, false, false, false, false] rfl rfl (by kernel_rfl) (fun _ _ _ h => h) (Or.inl ⟨by rfl, ?_⟩) ?_ ?_
  rotate_left
  · intro w'
    go_simp
    with_reducible rfl
  rotate_left
  · simp only [Act.put, List.setIfInBounds_toArray, List.set_cons_zero, List.set_cons_succ, i64_w, i32_w]
    rfl
  refine pure_ (i := 2) (N := some 41) (v := ?_) (a' := ?_) #[true, false, true, false, false, false, false, false, false, false, false, false, false, false, false, false, false, false, false, false, false] rfl rfl (by kernel_rfl) (fun _ _ _ h => h) (Or.inl ⟨by rfl, ?_⟩) ?_ ?_
  rotate_left
  · intro w'
    go_simp
    with_reducible rfl
  rotate_left
  · simp only [Act.put, List.setIfInBounds_toArray, List.set_cons_zero, List.set_cons_succ, i64_w, i32_w]
    rfl
  refine pure_ (i := 4) (N := some 43) (v := ?_) (a' := ?_) #[true, false, true, false, true, false, false, false, false, false, false, false, false, false, false, false, false, false, false, false, false] rfl rfl (by kernel_rfl) (fun _ _ _ h => h) (Or.inl ⟨by rfl, ?_⟩) ?_ ?_
  rotate_left
  · intro w'
    go_simp
    with_reducible rfl
  rotate_left
  · simp only [Act.put, List.setIfInBounds_toArray, List.set_cons_zero, List.set_cons_succ, i64_w, i32_w]
    rfl
  refine pure_ (i := 5) (N := some 44) (v := ?_) (a' := ?_) #[true, false, true, false, true, true, false, false, false, false, false, false, false, false, false, false, false, false, false, false, false] rfl rfl (by kernel_rfl) (fun _ _ _ h => h) (Or.inl ⟨by rfl, ?_⟩) ?_ ?_
  rotate_left
  · intro w'
    go_simp
    with_reducible rfl
  rotate_left
  · simp only [Act.put, List.setIfInBounds_toArray, List.set_cons_zero, List.set_cons_succ, i64_w, i32_w]
    rfl
  refine take_ (i := 1) (N := some 40) (v := ?_) (a' := ?_) #[true, true, true, false, true, true, false, false, false, false, false, false, false, false, false, false, false, false, false, false, false] rfl rfl (by kernel_rfl) (fun _ _ _ h => h) (Or.inl ⟨by rfl, ?_⟩) hHeld ?_ ?_
  rotate_left
  · rintro w' ⟨s0, s1, s2⟩
    go_simp
    with_reducible rfl
  rotate_left
  · simp only [Act.put, List.setIfInBounds_toArray, List.set_cons_zero, List.set_cons_succ, i64_w, i32_w]
    rfl
  refine take_ (i := 3) (N := some 42) (v := ?_) (a' := ?_) #[true, true, true, true, true, true, false, false, false, false, false, false, false, false, false, false, false, false, false, false, false] rfl rfl (by kernel_rfl) (fun _ _ _ h => h) (Or.inl ⟨by rfl, ?_⟩) hHeld ?_ ?_
  rotate_left
  · rintro w' ⟨s0, s1, s2⟩
    go_simp
    with_reducible rfl
  rotate_left
  · simp only [Act.put, List.setIfInBounds_toArray, List.set_cons_zero, List.set_cons_succ, i64_w, i32_w]
    rfl
  refine take_ (i := 6) (N := some 45) (v := ?_) (a' := ?_) #[true, true, true, true, true, true, true, false, false, false, false, false, false, false, false, false, false, false, false, false, false] rfl rfl (by kernel_rfl) (fun _ _ _ h => h) (Or.inl ⟨by rfl, ?_⟩) hHeld ?_ ?_
  rotate_left
  · rintro w' ⟨s0, s1, s2⟩
    go_simp
    with_reducible rfl
  rotate_left
  · simp only [Act.put, List.setIfInBounds_toArray, List.set_cons_zero, List.set_cons_succ, i64_w, i32_w]
    rfl
  refine pure_ (i := 7) (N := some 46) (v := ?_) (a' := ?_) #[true, true, true, true, true, true, true, true, false, false, false, false, false, false, false, false, false, false, false, false, false] rfl rfl (by kernel_rfl) (fun _ _ _ h => h) (Or.inl ⟨by rfl, ?_⟩) ?_ ?_
  rotate_left
  · intro w'
    go_simp
    with_reducible rfl
  rotate_left
  · simp only [Act.put, List.setIfInBounds_toArray, List.set_cons_zero, List.set_cons_succ, i64_w, i32_w]
    rfl
  refine pure_ (i := 8) (N := some 47) (v := ?_) (a' := ?_) #[true, true, true, true, true, true, true, true, true, false, false, false, false, false, false, false, false, false, false, false, false] rfl rfl (by kernel_rfl) (fun _ _ _ h => h) (Or.inl ⟨by rfl, ?_⟩) ?_ ?_
  rotate_left
  · intro w'
    go_simp
    with_reducible rfl
  rotate_left
  · simp only [Act.put, List.setIfInBounds_toArray, List.set_cons_zero, List.set_cons_succ, i64_w, i32_w]
    rfl
  refine join_ (σ := Value × Value × Value × Nat) 3 #[true, true, true, true, true, true, true, true, true, true, true, true, true, true, true, true, true, true, false, false, false] (fun s => [(48, .int .i64 (n : Int)), (51, .tuple #[.agg #[s.1, s.2.1], s.2.2.1, .int .i64 0]), (11, .pointer (some ⟨s.2.2.2, 0, none⟩)), (49, .slice A0_1 n c0_1), (50, .agg #[.slice A0_0 l0_0.length c0_0, .slice A0_1 n c0_1]), (38, .tuple #[.agg #[s.1, s.2.1], s.2.2.1, .int .i64 0]), (52, .agg #[s.1, s.2.1]), (53, s.2.2.1), (54, .int .i64 0)]) (fun s w' => (Below w5.heap.size w5 w' ∧ w'.cell? ⟨w.heap.size, 0, none⟩ = some (.slice A0_0 l0_0.length c0_0) ∧ w'.cell? ⟨w.heap.size, 1, none⟩ = some (.slice A0_1 l0_1.length c0_1)) ∧ ∃ ps, (∃ A n c, s.1 = .slice A n c) ∧ (∃ A n c, s.2.1 = .slice A n c) ∧ (∀ m ∈ ps, fnd c.mvs m.f1 c.mvs.length = true) ∧ ps.length ≤ 2000 ∧ Kd.R k56 56 w' w5.heap.size (fun _ => True) s.2.2.1 ps ∧ w'.heap[s.2.2.2]? = some (.cells #[.slice none 0 0, .slice none 0 0] 51 (0, 0)) ∧ w5.heap.size ≤ s.2.2.2) ?_ ?_
  rotate_left
  · intro hCont
    refine two_ (i := 9) (j := 17) (Ni := some 48) (Nj := some 11) #[true, true, true, true, true, true, true, true, true, true, false, false, false, false, false, false, false, false, false, false, false] #[true, true, true, true, true, true, true, true, true, false, false, false, false, false, false, false, false, true, false, false, false] rfl rfl rfl rfl (by kernel_rfl) (by decide) (by decide) (fun K hK => ?_) (fun K hK => ?_)
    · skip
      refine goes_ Try.func33 (by kernel_rfl) rfl #[.int .i64 a1, .int .i64 (wrap64 ((l0_1.length : Int) + 1))] (by rfl) rfl rfl (by simp only [List.map_toArray, List.map_cons, List.map_nil]; rfl) ?_
      with_reducible refine (backstitchref3_Rest.calls a1 _ (n : Int) _ HN.out).mono ?_
      rintro e w6 ⟨rfl, hd⟩
      refine ⟨_, rfl, ?_⟩
      refine hK.out _ _ ⟨hHeld.1.trans (below_cut hd.below hHeld.1.size), pw_cell_below hd.below hHeld.2.1, pw_cell_below hd.below hHeld.2.2⟩ (fun hHeld => ?_)
      clear hK K
      refine norm_ (a' := ?_) ?_ ?_
      rotate_left
      · show Act.put _ (some 48) _ = _
        simp only [Act.put, List.setIfInBounds_toArray, List.set_cons_zero, List.set_cons_succ, i64_w, i32_w]
        rfl
      refine pure_ (i := 10) (N := some 49) (v := ?_) (a' := ?_) #[true, true, true, true, true, true, true, true, true, true, true, false, false, false, false, false, false, false, false, false, false] rfl rfl (by kernel_rfl) (fun _ _ _ h => h) (Or.inl ⟨by rfl, ?_⟩) ?_ ?_
      rotate_left
      · intro w'
        go_simp
        with_reducible rfl
      rotate_left
      · simp only [Act.put, List.setIfInBounds_toArray, List.set_cons_zero, List.set_cons_succ, i64_w, i32_w]
        rfl
      refine pure_ (i := 11) (N := some 50) (v := ?_) (a' := ?_) #[true, true, true, true, true, true, true, true, true, true, true, true, false, false, false, false, false, false, false, false, false] rfl rfl (by kernel_rfl) (fun _ _ _ h => h) (Or.inl ⟨by rfl, ?_⟩) ?_ ?_
      rotate_left
      · intro w'
        go_simp
        with_reducible rfl
      rotate_left
      · simp only [Act.put, List.setIfInBounds_toArray, List.set_cons_zero, List.set_cons_succ, i64_w, i32_w]
        rfl
      refine two_ (i := 12) (j := 17) (Ni := some 51) (Nj := some 11) #[true, true, true, true, true, true, true, true, true, true, true, true, true, false, false, false, false, false, false, false, false] #[true, true, true, true, true, true, true, true, true, true, true, true, false, false, false, false, false, true, false, false, false] rfl rfl rfl rfl (by kernel_rfl) (by decide) (by decide) (fun K hK => ?_) (fun K hK => ?_)
      · skip
        refine goes_ Try.func29 (by kernel_rfl) rfl #[.agg #[.slice A0_0 l0_0.length c0_0, .slice A0_1 n c0_1]] (by rfl) rfl rfl (by simp only [List.map_toArray, List.map_cons, List.map_nil]; rfl) ?_
        with_reducible refine (HCALL.out _ hHeld.1).mono ?_
        rintro e w7 ⟨ps, vto, vouts, vold, rfl, hv1, hv2, hps, hpl, hR, hb⟩
        refine ⟨_, rfl, ?_⟩
        have hR := Kd.R_lower hR hHeld.1.size
        refine hK.out _ _ ⟨hHeld.1.trans (below_cut hb hHeld.1.size), pw_cell_below hb hHeld.2.1, pw_cell_below hb hHeld.2.2⟩ (fun hHeld => ?_)
        clear hK K
        refine norm_ (a' := ?_) ?_ ?_
        rotate_left
        · show Act.put _ (some 51) _ = _
          simp only [Act.put, List.setIfInBounds_toArray, List.set_cons_zero, List.set_cons_succ, i64_w, i32_w]
          rfl
        refine pure_ (i := 13) (N := some 38) (v := ?_) (a' := ?_) #[true, true, true, true, true, true, true, true, true, true, true, true, true, true, false, false, false, false, false, false, false] rfl rfl (by kernel_rfl) (fun _ _ _ h => h) (Or.inl ⟨by rfl, ?_⟩) ?_ ?_
        rotate_left
        · intro w'
          go_simp
          with_reducible rfl
        rotate_left
        · simp only [Act.put, List.setIfInBounds_toArray, List.set_cons_zero, List.set_cons_succ, i64_w, i32_w]
          rfl
        refine pure_ (i := 14) (N := some 52) (v := ?_) (a' := ?_) #[true, true, true, true, true, true, true, true, true, true, true, true, true, true, true, false, false, false, false, false, false] rfl rfl (by kernel_rfl) (fun _ _ _ h => h) (Or.inl ⟨by rfl, ?_⟩) ?_ ?_
        rotate_left
        · intro w'
          go_simp
          with_reducible rfl
        rotate_left
        · simp only [Act.put, List.setIfInBounds_toArray, List.set_cons_zero, List.set_cons_succ, i64_w, i32_w]
          rfl
        refine pure_ (i := 15) (N := some 53) (v := ?_) (a' := ?_) #[true, true, true, true, true, true, true, true, true, true, true, true, true, true, true, true, false, false, false, false, false] rfl rfl (by kernel_rfl) (fun _ _ _ h => h) (Or.inl ⟨by rfl, ?_⟩) ?_ ?_
        rotate_left
        · intro w'
          go_simp
          with_reducible rfl
        rotate_left
        · simp only [Act.put, List.setIfInBounds_toArray, List.set_cons_zero, List.set_cons_succ, i64_w, i32_w]
          rfl
        refine pure_ (i := 16) (N := some 54) (v := ?_) (a' := ?_) #[true, true, true, true, true, true, true, true, true, true, true, true, true, true, true, true, true, false, false, false, false] rfl rfl (by kernel_rfl) (fun _ _ _ h => h) (Or.inl ⟨by rfl, ?_⟩) ?_ ?_
        rotate_left
        · intro w'
          go_simp
          with_reducible rfl
        rotate_left
        · simp only [Act.put, List.setIfInBounds_toArray, List.set_cons_zero, List.set_cons_succ, i64_w, i32_w]
          rfl
        refine one_ (i := 17) (N := some 11) #[true, true, true, true, true, true, true, true, true, true, true, true, true, true, true, true, true, true, false, false, false] rfl rfl (by kernel_rfl) (by decide) (fun K hK => ?_)
        have hgl := hHeld.1.size
        have hl := heap_alloc_new w7 (Obj.cells #[.slice none 0 0, .slice none 0 0] 51)
        have hR := Kd.R_alloc hR (Obj.cells #[.slice none 0 0, .slice none 0 0] 51)
        refine value_ (w1 := ?_) (v := ?_) (by rfl) rfl ?_ ?_
        rotate_left 2
        · go_simp
          constructor
          · rfl
          · rfl
        refine hK.out _ _ ⟨hHeld.1.alloc hHeld.1.size _, pw_cell_below (below_alloc (Below.refl _ _) _) hHeld.2.1, pw_cell_below (below_alloc (Below.refl _ _) _) hHeld.2.2⟩ (fun hHeld => ?_)
        clear hK K
        refine norm_ (a' := ?_) ?_ ?_
        rotate_left
        · show Act.put _ (some 11) _ = _
          simp only [Act.put, List.setIfInBounds_toArray, List.set_cons_zero, List.set_cons_succ, i64_w, i32_w]
          rfl
        exact norm_ (by simp only [putAll, Act.put, List.setIfInBounds_toArray, List.set_cons_zero, List.set_cons_succ]) (hCont (vto, vouts, vold, w7.heap.size) _ ⟨hHeld, ps, hv1, hv2, hps, hpl, hR, hl, hgl⟩)
      · skip
        have hgl := hHeld.1.size
        have hl := heap_alloc_new w6 (Obj.cells #[.slice none 0 0, .slice none 0 0] 51)
        refine value_ (w1 := ?_) (v := ?_) (by rfl) rfl ?_ ?_
        rotate_left 2
        · go_simp
          constructor
          · rfl
          · rfl
        refine hK.out _ _ ⟨hHeld.1.alloc hHeld.1.size _, pw_cell_below (below_alloc (Below.refl _ _) _) hHeld.2.1, pw_cell_below (below_alloc (Below.refl _ _) _) hHeld.2.2⟩ (fun hHeld => ?_)
        clear hK K
        refine norm_ (a' := ?_) ?_ ?_
        rotate_left
        · show Act.put _ (some 11) _ = _
          simp only [Act.put, List.setIfInBounds_toArray, List.set_cons_zero, List.set_cons_succ, i64_w, i32_w]
          rfl
        refine one_ (i := 12) (N := some 51) #[true, true, true, true, true, true, true, true, true, true, true, true, true, false, false, false, false, true, false, false, false] rfl rfl (by kernel_rfl) (by decide) (fun K hK => ?_)
        refine goes_ Try.func29 (by kernel_rfl) rfl #[.agg #[.slice A0_0 l0_0.length c0_0, .slice A0_1 n c0_1]] (by rfl) rfl rfl (by simp only [List.map_toArray, List.map_cons, List.map_nil]; rfl) ?_
        with_reducible refine (HCALL.out _ hHeld.1).mono ?_
        rintro e w7 ⟨ps, vto, vouts, vold, rfl, hv1, hv2, hps, hpl, hR, hb⟩
        refine ⟨_, rfl, ?_⟩
        have hR := Kd.R_lower hR hHeld.1.size
        have hl := blk_below hl hb
        refine hK.out _ _ ⟨hHeld.1.trans (below_cut hb hHeld.1.size), pw_cell_below hb hHeld.2.1, pw_cell_below hb hHeld.2.2⟩ (fun hHeld => ?_)
        clear hK K
        refine norm_ (a' := ?_) ?_ ?_
        rotate_left
        · show Act.put _ (some 51) _ = _
          simp only [Act.put, List.setIfInBounds_toArray, List.set_cons_zero, List.set_cons_succ, i64_w, i32_w]
          rfl
        refine pure_ (i := 13) (N := some 38) (v := ?_) (a' := ?_) #[true, true, true, true, true, true, true, true, true, true, true, true, true, true, false, false, false, true, false, false, false] rfl rfl (by kernel_rfl) (fun _ _ _ h => h) (Or.inl ⟨by rfl, ?_⟩) ?_ ?_
        rotate_left
        · intro w'
          go_simp
          with_reducible rfl
        rotate_left
        · simp only [Act.put, List.setIfInBounds_toArray, List.set_cons_zero, List.set_cons_succ, i64_w, i32_w]
          rfl
        refine pure_ (i := 14) (N := some 52) (v := ?_) (a' := ?_) #[true, true, true, true, true, true, true, true, true, true, true, true, true, true, true, false, false, true, false, false, false] rfl rfl (by kernel_rfl) (fun _ _ _ h => h) (Or.inl ⟨by rfl, ?_⟩) ?_ ?_
        rotate_left
        · intro w'
          go_simp
          with_reducible rfl
        rotate_left
        · simp only [Act.put, List.setIfInBounds_toArray, List.set_cons_zero, List.set_cons_succ, i64_w, i32_w]
          rfl
        refine pure_ (i := 15) (N := some 53) (v := ?_) (a' := ?_) #[true, true, true, true, true, true, true, true, true, true, true, true, true, true, true, true, false, true, false, false, false] rfl rfl (by kernel_rfl) (fun _ _ _ h => h) (Or.inl ⟨by rfl, ?_⟩) ?_ ?_
        rotate_left
        · intro w'
          go_simp
          with_reducible rfl
        rotate_left
        · simp only [Act.put, List.setIfInBounds_toArray, List.set_cons_zero, List.set_cons_succ, i64_w, i32_w]
          rfl
        refine pure_ (i := 16) (N := some 54) (v := ?_) (a' := ?_) #[true, true, true, true, true, true, true, true, true, true, true, true, true, true, true, true, true, true, false, false, false] rfl rfl (by kernel_rfl) (fun _ _ _ h => h) (Or.inl ⟨by rfl, ?_⟩) ?_ ?_
        rotate_left
        · intro w'
          go_simp
          with_reducible rfl
        rotate_left
        · simp only [Act.put, List.setIfInBounds_toArray, List.set_cons_zero, List.set_cons_succ, i64_w, i32_w]
          rfl
        exact norm_ (by simp only [putAll, Act.put, List.setIfInBounds_toArray, List.set_cons_zero, List.set_cons_succ]) (hCont (vto, vouts, vold, w6.heap.size) _ ⟨hHeld, ps, hv1, hv2, hps, hpl, hR, hl, hgl⟩)
    · skip
      have hgl := hHeld.1.size
      have hl := heap_alloc_new w16 (Obj.cells #[.slice none 0 0, .slice none 0 0] 51)
      refine value_ (w1 := ?_) (v := ?_) (by rfl) rfl ?_ ?_
      rotate_left 2
      · go_simp
        constructor
        · rfl
        · rfl
      refine hK.out _ _ ⟨hHeld.1.alloc hHeld.1.size _, pw_cell_below (below_alloc (Below.refl _ _) _) hHeld.2.1, pw_cell_below (below_alloc (Below.refl _ _) _) hHeld.2.2⟩ (fun hHeld => ?_)
      clear hK K
      refine norm_ (a' := ?_) ?_ ?_
      rotate_left
      · show Act.put _ (some 11) _ = _
        simp only [Act.put, List.setIfInBounds_toArray, List.set_cons_zero, List.set_cons_succ, i64_w, i32_w]
        rfl
      refine one_ (i := 9) (N := some 48) #[true, true, true, true, true, true, true, true, true, true, false, false, false, false, false, false, false, true, false, false, false] rfl rfl (by kernel_rfl) (by decide) (fun K hK => ?_)
      refine goes_ Try.func33 (by kernel_rfl) rfl #[.int .i64 a1, .int .i64 (wrap64 ((l0_1.length : Int) + 1))] (by rfl) rfl rfl (by simp only [List.map_toArray, List.map_cons, List.map_nil]; rfl) ?_
      with_reducible refine (backstitchref3_Rest.calls a1 _ (n : Int) _ HN.out).mono ?_
      rintro e w6 ⟨rfl, hd⟩
      refine ⟨_, rfl, ?_⟩
      have hl := blk_below hl hd.below
      refine hK.out _ _ ⟨hHeld.1.trans (below_cut hd.below hHeld.1.size), pw_cell_below hd.below hHeld.2.1, pw_cell_below hd.below hHeld.2.2⟩ (fun hHeld => ?_)
      clear hK K
      refine norm_ (a' := ?_) ?_ ?_
      rotate_left
      · show Act.put _ (some 48) _ = _
        simp only [Act.put, List.setIfInBounds_toArray, List.set_cons_zero, List.set_cons_succ, i64_w, i32_w]
        rfl
      refine pure_ (i := 10) (N := some 49) (v := ?_) (a' := ?_) #[true, true, true, true, true, true, true, true, true, true, true, false, false, false, false, false, false, true, false, false, false] rfl rfl (by kernel_rfl) (fun _ _ _ h => h) (Or.inl ⟨by rfl, ?_⟩) ?_ ?_
      rotate_left
      · intro w'
        go_simp
        with_reducible rfl
      rotate_left
      · simp only [Act.put, List.setIfInBounds_toArray, List.set_cons_zero, List.set_cons_succ, i64_w, i32_w]
        rfl
      refine pure_ (i := 11) (N := some 50) (v := ?_) (a' := ?_) #[true, true, true, true, true, true, true, true, true, true, true, true, false, false, false, false, false, true, false, false, false] rfl rfl (by kernel_rfl) (fun _ _ _ h => h) (Or.inl ⟨by rfl, ?_⟩) ?_ ?_
      rotate_left
      · intro w'
        go_simp
        with_reducible rfl
      rotate_left
      · simp only [Act.put, List.setIfInBounds_toArray, List.set_cons_zero, List.set_cons_succ, i64_w, i32_w]
        rfl
      refine one_ (i := 12) (N := some 51) #[true, true, true, true, true, true, true, true, true, true, true, true, true, false, false, false, false, true, false, false, false] rfl rfl (by kernel_rfl) (by decide) (fun K hK => ?_)
      refine goes_ Try.func29 (by kernel_rfl) rfl #[.agg #[.slice A0_0 l0_0.length c0_0, .slice A0_1 n c0_1]] (by rfl) rfl rfl (by simp only [List.map_toArray, List.map_cons, List.map_nil]; rfl) ?_
      with_reducible refine (HCALL.out _ hHeld.1).mono ?_
      rintro e w7 ⟨ps, vto, vouts, vold, rfl, hv1, hv2, hps, hpl, hR, hb⟩
      refine ⟨_, rfl, ?_⟩
      have hR := Kd.R_lower hR hHeld.1.size
      have hl := blk_below hl hb
      refine hK.out _ _ ⟨hHeld.1.trans (below_cut hb hHeld.1.size), pw_cell_below hb hHeld.2.1, pw_cell_below hb hHeld.2.2⟩ (fun hHeld => ?_)
      clear hK K
      refine norm_ (a' := ?_) ?_ ?_
      rotate_left
      · show Act.put _ (some 51) _ = _
        simp only [Act.put, List.setIfInBounds_toArray, List.set_cons_zero, List.set_cons_succ, i64_w, i32_w]
        rfl
      refine pure_ (i := 13) (N := some 38) (v := ?_) (a' := ?_) #[true, true, true, true, true, true, true, true, true, true, true, true, true, true, false, false, false, true, false, false, false] rfl rfl (by kernel_rfl) (fun _ _ _ h => h) (Or.inl ⟨by rfl, ?_⟩) ?_ ?_
      rotate_left
      · intro w'
        go_simp
        with_reducible rfl
      rotate_left
      · simp only [Act.put, List.setIfInBounds_toArray, List.set_cons_zero, List.set_cons_succ, i64_w, i32_w]
        rfl
      refine pure_ (i := 14) (N := some 52) (v := ?_) (a' := ?_) #[true, true, true, true, true, true, true, true, true, true, true, true, true, true, true, false, false, true, false, false, false] rfl rfl (by kernel_rfl) (fun _ _ _ h => h) (Or.inl ⟨by rfl, ?_⟩) ?_ ?_
      rotate_left
      · intro w'
        go_simp
        with_reducible rfl
      rotate_left
      · simp only [Act.put, List.setIfInBounds_toArray, List.set_cons_zero, List.set_cons_succ, i64_w, i32_w]
        rfl
      refine pure_ (i := 15) (N := some 53) (v := ?_) (a' := ?_) #[true, true, true, true, true, true, true, true, true, true, true, true, true, true, true, true, false, true, false, false, false] rfl rfl (by kernel_rfl) (fun _ _ _ h => h) (Or.inl ⟨by rfl, ?_⟩) ?_ ?_
      rotate_left
      · intro w'
        go_simp
        with_reducible rfl
      rotate_left
      · simp only [Act.put, List.setIfInBounds_toArray, List.set_cons_zero, List.set_cons_succ, i64_w, i32_w]
        rfl
      refine pure_ (i := 16) (N := some 54) (v := ?_) (a' := ?_) #[true, true, true, true, true, true, true, true, true, true, true, true, true, true, true, true, true, true, false, false, false] rfl rfl (by kernel_rfl) (fun _ _ _ h => h) (Or.inl ⟨by rfl, ?_⟩) ?_ ?_
      rotate_left
      · intro w'
        go_simp
        with_reducible rfl
      rotate_left
      · simp only [Act.put, List.setIfInBounds_toArray, List.set_cons_zero, List.set_cons_succ, i64_w, i32_w]
        rfl
      exact norm_ (by simp only [putAll, Act.put, List.setIfInBounds_toArray, List.set_cons_zero, List.set_cons_succ]) (hCont (vto, vouts, vold, w16.heap.size) _ ⟨hHeld, ps, hv1, hv2, hps, hpl, hR, hl, hgl⟩)
  rintro ⟨vto, vouts, vold, gl⟩ w7 ⟨hS_, ps, ⟨A7, n7, c7, e7_⟩, ⟨A8, n8, c8, e8_⟩, hps, hpl, hR, hl, hgl⟩
  simp only at e7_ e8_
  subst e7_
  subst e8_
  obtain ⟨A9, c9, rfl⟩ := Kd.R_slice hR
  have hHeld := hS_
  refine norm_ (a' := ?_) ?_ ?_
  rotate_left
  · simp only [putAll, Act.put, List.setIfInBounds_toArray, List.set_cons_zero, List.set_cons_succ]
    rfl
  refine last_ (i := 18) (N := none) #[true, true, true, true, true, true, true, true, true, true, true, true, true, true, true, true, true, true, true, false, false] rfl rfl (by kernel_rfl) (by decide) (fun K hK => ?_)
  have hf6 : w7.frozen? ⟨gl, 0, none⟩ = false := blk_frozen hl 0
  have hf7 : w7.frozen? ⟨gl, 1, none⟩ = false := blk_frozen hl 1
  have hc6 : w7.cell? ⟨gl, 0, none⟩ = some (.slice none 0 0) := (blk_cell hl 0).trans rfl
  have hc7 : w7.cell? ⟨gl, 1, none⟩ = some (.slice none 0 0) := (blk_cell hl 1).trans rfl
  refine skip_ (w1 := ?_) (by rfl) rfl ?_ ?_
  rotate_left
  · go_simp
    rfl
  refine hK.out _ _ ?_
  clear hK K
  refine pure_ (i := 19) (N := some 12) (v := ?_) (a' := ?_) #[true, true, true, true, true, true, true, true, true, true, true, true, true, true, true, true, true, true, true, true, false] rfl rfl (by kernel_rfl) (fun _ _ _ h => h) (Or.inl ⟨by rfl, ?_⟩) ?_ ?_
  rotate_left
  · intro w'
    go_simp
    with_reducible rfl
  rotate_left
  · simp only [Act.put, List.setIfInBounds_toArray, List.set_cons_zero, List.set_cons_succ, i64_w, i32_w]
    rfl
  refine pure_ (i := 20) (N := some 13) (v := ?_) (a' := ?_) #[true, true, true, true, true, true, true, true, true, true, true, true, true, true, true, true, true, true, true, true, true] rfl rfl (by kernel_rfl) (fun _ _ _ h => h) (Or.inl ⟨by rfl, ?_⟩) ?_ ?_
  rotate_left
  · intro w'
    go_simp
    with_reducible rfl
  rotate_left
  · simp only [Act.put, List.setIfInBounds_toArray, List.set_cons_zero, List.set_cons_succ, i64_w, i32_w]
    rfl
  refine done_ (by kernel_rfl) ?_
  have hb8 : Below w5.heap.size w5 ((w7.setCell ⟨gl, 0, none⟩ (.slice A7 n7 c7)).setCell ⟨gl, 1, none⟩ (.slice A8 n8 c8)) := (hS_.1.setCell hgl _).setCell hgl _
  have hR8 := R_flat (W1 := ((w7.setCell ⟨gl, 0, none⟩ (.slice A7 n7 c7)).setCell ⟨gl, 1, none⟩ (.slice A8 n8 c8))) rfl hR (fun k_ hk => by
    have hne : k_ ≠ gl := fun e_ => by subst e_; exact Kd.R_ne hR hl (by decide) hk.symm
    rw [Below.heap_setCell _ _ _ _ hne, Below.heap_setCell _ _ _ _ hne])
  generalize ((w7.setCell ⟨gl, 0, none⟩ (.slice A7 n7 c7)).setCell ⟨gl, 1, none⟩ (.slice A8 n8 c8)) = w8 at hb8 hR8 ⊢
  have HB8 : Aside0 (Below w.heap.size w w8) := ⟨HB5.out.trans (below_cut hb8 HB5.out.size)⟩
  have HD8 := Aside0.mk (blk_below HD5.out hb8)
  have HC38 : Aside0 (Kd.C k56 w8 A3 c.mvs.length c.mvs) := ⟨Kd.C_below HC35.out hb8⟩
  have hl1 := (fin_len HH.out HF.out).2.1
  have hl2 := (fin_len HH.out HF.out).2.2.2.2
  have hl5 : (objF l0_0).1.length ≤ l0_0.length := objW_len _ _
  have hl6 := HH.out.len
  have HL : Aside0 (c.mvs.length ≤ 2000 ∧ ps.length ≤ 2000) := ⟨by omega⟩
  have HFL := Aside0.mk hps
  obtain ⟨A9', c9', e9, hc9, hC9⟩ := Kd.R_reads hR8
  injection e9 with e9 e9a e9b
  subst e9
  have HC98 := Aside0.mk hC9
  generalize c.mvs = ms at HC38 HFL HL ⊢
  clear hb8 hR8 hS_ hps hpl hR hl hgl hHeld hl1 hl2 hl5 hl6 hp0 hp2 htn hq0 hq1 hC9 hc9 e9a e9b HK5 HD5 HB5 HC35 HCALL
  go_wp2_with fail
  go_loopg [57] ps.length (fun kq v57 W => ∃ i : Nat, v57 = .int .i64 (i : Int) ∧ Aside0 (i ≤ ps.length ∧ kq = ps.length - i) ∧ Aside0 (Below w8.heap.size w8 W))
  case atStart => exact ⟨0, rfl, ⟨Nat.zero_le _, by omega⟩, ⟨Below.refl _ _⟩⟩
  case round =>
    obtain ⟨i, rfl, HIQ, HB⟩ := hrel
    by_cases hlt : i < ps.length
    · have hi0 : (0 : Int) ≤ (i : Int) := by omega
      have hi1 : (i : Int) < (ps.length : Int) := by omega
      obtain ⟨ad, rfl, hx0, hx1⟩ := at_move (Kd.C_below HC98.out HB.out) i hlt
      have hge : ps.getD i z56 = ps[i] := by rw [List.getD_eq_getElem?_getD, List.getElem?_eq_getElem hlt]; rfl
      rw [hge] at hx0 hx1
      have hdec : decide ((i : Int) < (ps.length : Int)) = true := decide_eq_true hi1
      have hdec2 : decide (i < ps.length) = true := decide_eq_true hlt
      have HLT := Aside0.mk hlt
      have HFX := Aside0.mk (HFL.out _ (List.getElem_mem hlt))
      generalize ps[i] = p at hx0 hx1 HFX
      clear hlt hge
      go_upto_region 11 with fail
      generalize hwx : World.alloc _ _ = wx
      have hdx : wx.heap[wr.heap.size]? = some (.cells #[.int .i64 p.f0, .int .i64 p.f1] 56 (0, 0)) := by
        rw [← hwx]
        exact heap_alloc_new _ _
      have hbx : Below wr.heap.size wr wx := by
        rw [← hwx]
        exact below_alloc (Below.refl _ _) _
      have HDX := Aside0.mk hdx
      have HBX : Aside0 (Below w8.heap.size w8 wx) := ⟨below_step HB.out hbx⟩
      obtain ⟨wo, rfl⟩ : ∃ wo : World, wo = wr := ⟨_, rfl⟩
      clear hwx hdx hbx hx0 hx1 hdec hdec2 hi0 hi1
      go_wp2_with fail
      go_loopg [16, 63] ms.length (fun kq v16 v63 W => ∃ j : Nat, v63 = .int .i64 (j : Int) ∧ v16 = .bool (fnd ms p.f1 j) ∧ Aside0 (j ≤ ms.length ∧ kq = ms.length - j) ∧ Aside0 (Below wx.heap.size wx W))
      case atStart => exact ⟨0, rfl, rfl, ⟨Nat.zero_le _, by omega⟩, ⟨Below.refl _ _⟩⟩
      case round =>
        obtain ⟨j, rfl, rfl, HJQ, HBJ⟩ := hrel
        by_cases hjt : j < ms.length
        · have hj0 : (0 : Int) ≤ (j : Int) := by omega
          have hj1 : (j : Int) < (ms.length : Int) := by omega
          obtain ⟨bd, rfl, hy0, hy1⟩ := at_move (Kd.C_below HC38.out (below_step HBX.out HBJ.out)) j hjt
          have hge : ms.getD j z56 = ms[j] := by rw [List.getD_eq_getElem?_getD, List.getElem?_eq_getElem hjt]; rfl
          rw [hge] at hy0 hy1
          have hdec : decide ((j : Int) < (ms.length : Int)) = true := decide_eq_true hj1
          have hdec2 : decide (j < ms.length) = true := decide_eq_true hjt
          have HJT := Aside0.mk hjt
          have HSU := Aside0.mk (fnd_succ (p := p.f1) hjt)
          generalize ms[j] = q at hy0 hy1 HSU
          have hcc : wr.cell? ⟨wo.heap.size, 1, none⟩ = some (.int .i64 p.f1) := (blk_cell (blk_below HDX.out HBJ.out) 1).trans rfl
          replace hcc := pw_cell_below (below_alloc (Below.refl _ wr) (Obj.cells #[.int .i64 q.f0, .int .i64 q.f1] 56)) hcc
          clear hjt hge
          cases hb : fnd ms p.f1 j with
          | true =>
            have HFB := Aside0.mk hb
            clear hb hcc
            go_wp2
            go_roundg (ms.length - (j + 1))
            case measure => have := HJQ.out; have := HJT.out; omega
            case rel => exact ⟨j + 1, by first | rfl | (have := HJT.out; have := HL.out; rw [show wrap64 ((j : Int) + 1) = ((j + 1 : Nat) : Int) from by unfold wrap64; omega]), by rw [HSU.out, HFB.out]; rfl, ⟨by have := HJT.out; omega, rfl⟩, ⟨by repeat (first | exact HBJ.out | apply below_alloc | apply pw_below_drewN | apply below_drew1)⟩⟩
          | false =>
            have HFB := Aside0.mk hb
            clear hb
            go_wp2
            go_roundg (ms.length - (j + 1))
            case measure => have := HJQ.out; have := HJT.out; omega
            case rel => exact ⟨j + 1, by first | rfl | (have := HJT.out; have := HL.out; rw [show wrap64 ((j : Int) + 1) = ((j + 1 : Nat) : Int) from by unfold wrap64; omega]), by rw [HSU.out, HFB.out]; first | rfl | simp, ⟨by have := HJT.out; omega, rfl⟩, ⟨by repeat (first | exact HBJ.out | apply below_alloc | apply pw_below_drewN | apply below_drew1)⟩⟩
        · have e_ : j = ms.length := by have := HJQ.out; omega
          subst e_
          have hdec : decide ((ms.length : Int) < (ms.length : Int)) = false := decide_eq_false (by omega)
          have hdec2 : decide (ms.length < ms.length) = false := decide_eq_false hjt
          rw [HFX.out]
          clear hjt HJQ
          go_wp2
          go_roundg (ps.length - (i + 1))
          case measure => have := HIQ.out; have := HLT.out; omega
          case rel => exact ⟨i + 1, by first | rfl | (have := HLT.out; have := HL.out; rw [show wrap64 ((i : Int) + 1) = ((i + 1 : Nat) : Int) from by unfold wrap64; omega]), ⟨by have := HLT.out; omega, rfl⟩, ⟨below_step HBX.out HBJ.out⟩⟩
    · have e_ : i = ps.length := by have := HIQ.out; omega
      subst e_
      have hdec : decide ((ps.length : Int) < (ps.length : Int)) = false := decide_eq_false (by omega)
      have hdec2 : decide (ps.length < ps.length) = false := decide_eq_false hlt
      clear hlt HIQ
      go_wp2_with fail
      refine (hauled_calls _).mono ?_
      rintro e w10 ⟨rfl, hb⟩
      have hb810 : Below w8.heap.size w8 w10 := below_step HB.out hb
      have hq0 : w10.cell? ⟨w4.heap.size, 0, none⟩ = some (.slice A4 n4 c4) := (blk_cell (blk_below HD8.out hb810) 0).trans rfl
      have HB10 : Aside0 (Below w.heap.size w w10) := ⟨HB8.out.trans (below_cut hb810 HB8.out.size)⟩
      obtain ⟨z1, z2⟩ := HZ.out
      subst z1
      subst z2
      clear hb hb810 hdec hdec2
      go_wp2
      go_ret
      exact ⟨rfl, HB10.out⟩
end Go.Proofs.Ytoleplbmkdhgeaa.PQ
