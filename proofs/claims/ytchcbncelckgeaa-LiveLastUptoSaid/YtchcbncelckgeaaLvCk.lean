/- Package live walked: Check. -/
import Derived.Test.YtchcbncelckgeaaLvOn
set_option linter.unusedVariables false
set_option linter.unusedSimpArgs false
namespace Go.Proofs.Ytchcbncelckgeaa.Lv
open Go.RowKit Go.Proofs.YtchcbncelckgeaaW.PrintWords Go.Proofs.YtchcbncelckgeaaW.PrintLast Go.Proofs.YtchcbncelckgeaaW.PrintMore Go.Proofs.Ytchcbncelckgeaa.PZ Go.Proofs.Ytchcbncelckgeaa.Hnd Go.Lib

theorem mkF31 {W : World} {ok : Nat → Prop} (x : TX) {A2 : Option Addr} {c2 : Nat} (l2 : x.f2.length ≤ c2) (g2 : Kd.F k34 W ok A2 x.f2.length x.f2) {A3 : Option Addr} {c3 : Nat} (l3 : x.f3.length ≤ c3) (g3 : Kd.F k46 W ok A3 x.f3.length x.f3) : Kd.FK k31 W ok x [.int .i64 x.f0, .int .i64 x.f1, .slice A2 x.f2.length c2, .slice A3 x.f3.length c3] := fun W' hW => k31_mk W' x l2 (g2 W' hW) l3 (g3 W' hW)
theorem info31 : (Try.prog.info? 31).map (fun i => (i.zero, i.size, i.bytes)) = some (some (.agg #[.int .i64 0, .int .i64 0, .slice none 0 0, .slice none 0 0]), 4, 64) := by kernel_rfl
theorem ne_iff' {e : Int} {P : Prop} (h1 : e ≠ 0) (h2 : ¬ P) : e = 0 ↔ P := ⟨fun h => absurd h h1, fun h => absurd h h2⟩
theorem eq_iff' {P : Prop} (h2 : P) : (0 : Int) = 0 ↔ P := ⟨fun _ => h2, fun _ => rfl⟩
set_option maxHeartbeats 16000000 in
set_option maxRecDepth 100000 in
theorem chk1_calls (w : World) {A3 : Option Addr} {c3 : Nat} {A4 : Option Addr} {c4 : Nat} {A7 : Option Addr} {c7 : Nat} {A8 : Option Addr} {c8 : Nat} {A11 : Option Addr} {c11 : Nat} {A12 : Option Addr} {c12 : Nat} (t : TT) (x : TX) (n : Int) (A2_ : Option Addr) (c2_ : Nat) (A3_ : Option Addr) (c3_ : Nat) (b1 b3 : Nat) (h1 : w.heap[b1]? = some (.cells #[.int .i64 t.f0, .int .i64 t.f1, .int .i64 t.f2, .slice A3 t.f3.length c3, .slice A4 t.f4.length c4, .int .i64 t.f5.f0, .int .i64 t.f5.f1, .slice A7 t.f5.f2.length c7, .slice A8 t.f5.f3.length c8, .int .i64 t.f6.f0, .int .i64 t.f6.f1, .slice A11 t.f6.f2.length c11, .slice A12 t.f6.f3.length c12] 97 (0, 0))) (h3 : w.heap[b3]? = some (.cells #[.int .i64 n] 3 (0, 0))) (hi : Kd.C k103 w A3 t.f3.length t.f3) (hx2 : Kd.C k34 w A2_ x.f2.length x.f2) (hc2 : x.f2.length ≤ c2_) (hx3 : Kd.C k46 w A3_ x.f3.length x.f3) (hc3 : x.f3.length ≤ c3_) (hz : bigX x ≤ 2000000) :
    Calls Try.prog 77 #[.agg #[.int .i64 x.f0, .int .i64 x.f1, .slice A2_ x.f2.length c2_, .slice A3_ x.f3.length c3_], .pointer (some ⟨b1, 0, none⟩), .pointer (some ⟨b3, 0, none⟩)] w fun e w' => e = .returned (.bool (!allB t.f3 (valuesL x) n)) ∧ Below w.heap.size w w' := by
  obtain ⟨o1, ho1⟩ : ∃ ob, ob = Obj.cells #[.int .i64 x.f0, .int .i64 x.f1, .slice A2_ x.f2.length c2_, .slice A3_ x.f3.length c3_] 31 := ⟨_, rfl⟩
  have hal := below_alloc (Below.refl w.heap.size w) o1
  have HX : Aside0 ((w.alloc o1).heap[w.heap.size]? = some (.cells #[.int .i64 x.f0, .int .i64 x.f1, .slice A2_ x.f2.length c2_, .slice A3_ x.f3.length c3_] 31 (0, 0))) := ⟨by rw [ho1]; exact blk_new w _⟩
  have HT := Aside0.mk (blk_below h1 hal)
  have HN := Aside0.mk (blk_below h3 hal)
  have HB := Aside0.mk hal
  have HI := Aside0.mk (Kd.C_below hi hal)
  have HK := Aside0.mk (And.intro (Kd.C_below hx2 hal) (Kd.C_below hx3 hal))
  have HC := Aside0.mk (And.intro hc2 hc3)
  obtain ⟨KV, hKV⟩ := valsV_f x hz
  have HKV := Aside0.mk hKV
  have HVL : Aside0 ((valuesL x).length ≤ 2000000) := ⟨Nat.le_trans (valuesL_len x) hz⟩
  obtain ⟨b, hb⟩ : ∃ b, allB t.f3 (valuesL x) n = b := ⟨_, rfl⟩
  rw [hb]
  have HAL := Aside0.mk hb
  clear h1 h3 hi hx2 hc2 hx3 hc3 hz hKV hb hal
  go_enter Try.func77, Try.ntmps77
  go_upto_region 1 with fail
  rw [← ho1]
  clear ho1
  generalize w.alloc o1 = wz at HX HT HN HB HI HK ⊢
  have t0 := (blk_cell HT.out 0).trans rfl
  have t1 := (blk_cell HT.out 1).trans rfl
  have t2 := (blk_cell HT.out 2).trans rfl
  have t3 := (blk_cell HT.out 3).trans rfl
  have t4 := (blk_cell HT.out 4).trans rfl
  have t5 := (blk_cell HT.out 5).trans rfl
  have t6 := (blk_cell HT.out 6).trans rfl
  have t7 := (blk_cell HT.out 7).trans rfl
  have t8 := (blk_cell HT.out 8).trans rfl
  have t9 := (blk_cell HT.out 9).trans rfl
  have t10 := (blk_cell HT.out 10).trans rfl
  have t11 := (blk_cell HT.out 11).trans rfl
  have t12 := (blk_cell HT.out 12).trans rfl
  have x0 := (blk_cell HX.out 0).trans rfl
  have x1 := (blk_cell HX.out 1).trans rfl
  have x2 := (blk_cell HX.out 2).trans rfl
  have x3 := (blk_cell HX.out 3).trans rfl
  have n0 := (blk_cell HN.out 0).trans rfl
  refine start_ (n := 7) (S := fun w' => Below wz.heap.size wz w' ∧ w'.cell? ⟨b1, 0, none⟩ = some (.int .i64 t.f0) ∧ w'.cell? ⟨b1, 1, none⟩ = some (.int .i64 t.f1) ∧ w'.cell? ⟨b1, 2, none⟩ = some (.int .i64 t.f2) ∧ w'.cell? ⟨b1, 3, none⟩ = some (.slice A3 t.f3.length c3) ∧ w'.cell? ⟨b1, 4, none⟩ = some (.slice A4 t.f4.length c4) ∧ w'.cell? ⟨b1, 5, none⟩ = some (.int .i64 t.f5.f0) ∧ w'.cell? ⟨b1, 6, none⟩ = some (.int .i64 t.f5.f1) ∧ w'.cell? ⟨b1, 7, none⟩ = some (.slice A7 t.f5.f2.length c7) ∧ w'.cell? ⟨b1, 8, none⟩ = some (.slice A8 t.f5.f3.length c8) ∧ w'.cell? ⟨b1, 9, none⟩ = some (.int .i64 t.f6.f0) ∧ w'.cell? ⟨b1, 10, none⟩ = some (.int .i64 t.f6.f1) ∧ w'.cell? ⟨b1, 11, none⟩ = some (.slice A11 t.f6.f2.length c11) ∧ w'.cell? ⟨b1, 12, none⟩ = some (.slice A12 t.f6.f3.length c12) ∧ w'.cell? ⟨w.heap.size, 0, none⟩ = some (.int .i64 x.f0) ∧ w'.cell? ⟨w.heap.size, 1, none⟩ = some (.int .i64 x.f1) ∧ w'.cell? ⟨w.heap.size, 2, none⟩ = some (.slice A2_ x.f2.length c2_) ∧ w'.cell? ⟨w.heap.size, 3, none⟩ = some (.slice A3_ x.f3.length c3_) ∧ w'.cell? ⟨b3, 0, none⟩ = some (.int .i64 n)) (ds := []) #[false, false, false, false, false, false, false] (by kernel_rfl) rfl rfl ⟨(below_drew (Below.refl _ _)), t0, t1, t2, t3, t4, t5, t6, t7, t8, t9, t10, t11, t12, x0, x1, x2, x3, n0⟩ (fun hHeld => ?_)
  refine take_ (i := 0) (N := some 5) (v := ?_) (a' := ?_) #[true, false, false, false, false, false, false] rfl rfl (by kernel_rfl) (fun _ _ _ h => h) (Or.inl ⟨by rfl, ?_⟩) hHeld ?_ ?_
  rotate_left
  · rintro w' ⟨s0, s1, s2, s3, s4, s5, s6, s7, s8, s9, s10, s11, s12, s13, s14, s15, s16, s17, s18⟩
    go_simp
    with_reducible rfl
  rotate_left
  · simp only [Act.put, List.setIfInBounds_toArray, List.set_cons_zero, List.set_cons_succ, i64_w, i32_w]
    rfl
  refine take_ (i := 1) (N := some 6) (v := ?_) (a' := ?_) #[true, true, false, false, false, false, false] rfl rfl (by kernel_rfl) (fun _ _ _ h => h) (Or.inl ⟨by rfl, ?_⟩) hHeld ?_ ?_
  rotate_left
  · rintro w' ⟨s0, s1, s2, s3, s4, s5, s6, s7, s8, s9, s10, s11, s12, s13, s14, s15, s16, s17, s18⟩
    go_simp
    with_reducible rfl
  rotate_left
  · simp only [Act.put, List.setIfInBounds_toArray, List.set_cons_zero, List.set_cons_succ, i64_w, i32_w]
    rfl
  refine take_ (i := 3) (N := some 8) (v := ?_) (a' := ?_) #[true, true, false, true, false, false, false] rfl rfl (by kernel_rfl) (fun _ _ _ h => h) (Or.inl ⟨by rfl, ?_⟩) hHeld ?_ ?_
  rotate_left
  · rintro w' ⟨s0, s1, s2, s3, s4, s5, s6, s7, s8, s9, s10, s11, s12, s13, s14, s15, s16, s17, s18⟩
    go_simp
    with_reducible rfl
  rotate_left
  · simp only [Act.put, List.setIfInBounds_toArray, List.set_cons_zero, List.set_cons_succ, i64_w, i32_w]
    rfl
  refine one_ (i := 2) (N := some 7) #[true, true, true, true, false, false, false] rfl rfl (by kernel_rfl) (by decide) (fun K hK => ?_)
  refine goes_ Try.func65 (by kernel_rfl) rfl #[.agg #[.int .i64 x.f0, .int .i64 x.f1, .slice A2_ x.f2.length c2_, .slice A3_ x.f3.length c3_]] (by rfl) rfl rfl (by simp only [List.map_toArray, List.map_cons, List.map_nil]; rfl) ?_
  with_reducible refine (live_Values.calls KV x.f0 x.f1 A2_ c2_ x.f2 A3_ c3_ x.f3 (valuesL x) _ (Kd.C_below HK.out.1 hHeld.1) HC.out.1 (Kd.C_below HK.out.2 hHeld.1) HC.out.2 HKV.out).mono ?_
  rintro e w7 ⟨v7, rfl, hR7, hb7⟩
  refine ⟨_, rfl, ?_⟩
  obtain ⟨A7_, a7, rfl⟩ := Kd.R_slice hR7
  have hC7 := (Kd.R_reads' hR7).2.2
  clear hR7
  refine hK.out _ _ ⟨below_step hHeld.1 hb7, pw_cell_below hb7 hHeld.2.1, pw_cell_below hb7 hHeld.2.2.1, pw_cell_below hb7 hHeld.2.2.2.1, pw_cell_below hb7 hHeld.2.2.2.2.1, pw_cell_below hb7 hHeld.2.2.2.2.2.1, pw_cell_below hb7 hHeld.2.2.2.2.2.2.1, pw_cell_below hb7 hHeld.2.2.2.2.2.2.2.1, pw_cell_below hb7 hHeld.2.2.2.2.2.2.2.2.1, pw_cell_below hb7 hHeld.2.2.2.2.2.2.2.2.2.1, pw_cell_below hb7 hHeld.2.2.2.2.2.2.2.2.2.2.1, pw_cell_below hb7 hHeld.2.2.2.2.2.2.2.2.2.2.2.1, pw_cell_below hb7 hHeld.2.2.2.2.2.2.2.2.2.2.2.2.1, pw_cell_below hb7 hHeld.2.2.2.2.2.2.2.2.2.2.2.2.2.1, pw_cell_below hb7 hHeld.2.2.2.2.2.2.2.2.2.2.2.2.2.2.1, pw_cell_below hb7 hHeld.2.2.2.2.2.2.2.2.2.2.2.2.2.2.2.1, pw_cell_below hb7 hHeld.2.2.2.2.2.2.2.2.2.2.2.2.2.2.2.2.1, pw_cell_below hb7 hHeld.2.2.2.2.2.2.2.2.2.2.2.2.2.2.2.2.2.1, pw_cell_below hb7 hHeld.2.2.2.2.2.2.2.2.2.2.2.2.2.2.2.2.2.2⟩ (fun hHeld => ?_)
  clear hK K
  refine norm_ (a' := ?_) ?_ ?_
  rotate_left
  · show Act.put _ (some 7) _ = _
    simp only [Act.put, List.setIfInBounds_toArray, List.set_cons_zero, List.set_cons_succ, i64_w, i32_w]
    rfl
  refine one_ (i := 4) (N := some 9) #[true, true, true, true, true, false, false] rfl rfl (by kernel_rfl) (by decide) (fun K hK => ?_)
  refine goes_ Try.func75 (by kernel_rfl) rfl #[.agg #[.int .i64 t.f0, .int .i64 t.f1, .int .i64 t.f2, .slice A3 t.f3.length c3, .slice A4 t.f4.length c4, .int .i64 t.f5.f0, .int .i64 t.f5.f1, .slice A7 t.f5.f2.length c7, .slice A8 t.f5.f3.length c8, .int .i64 t.f6.f0, .int .i64 t.f6.f1, .slice A11 t.f6.f2.length c11, .slice A12 t.f6.f3.length c12], .slice A7_ (valuesL x).length a7, .int .i64 n] (by rfl) rfl rfl (by simp only [List.map_toArray, List.map_cons, List.map_nil]; rfl) ?_
  with_reducible refine (all_calls_b _ t A7_ a7 (valuesL x) n _ HAL.out (Kd.C_below HI.out hHeld.1) hC7 HVL.out).mono ?_
  rintro e w8 ⟨rfl, hb8⟩
  refine ⟨_, rfl, ?_⟩
  refine hK.out _ _ ⟨below_step hHeld.1 hb8, pw_cell_below hb8 hHeld.2.1, pw_cell_below hb8 hHeld.2.2.1, pw_cell_below hb8 hHeld.2.2.2.1, pw_cell_below hb8 hHeld.2.2.2.2.1, pw_cell_below hb8 hHeld.2.2.2.2.2.1, pw_cell_below hb8 hHeld.2.2.2.2.2.2.1, pw_cell_below hb8 hHeld.2.2.2.2.2.2.2.1, pw_cell_below hb8 hHeld.2.2.2.2.2.2.2.2.1, pw_cell_below hb8 hHeld.2.2.2.2.2.2.2.2.2.1, pw_cell_below hb8 hHeld.2.2.2.2.2.2.2.2.2.2.1, pw_cell_below hb8 hHeld.2.2.2.2.2.2.2.2.2.2.2.1, pw_cell_below hb8 hHeld.2.2.2.2.2.2.2.2.2.2.2.2.1, pw_cell_below hb8 hHeld.2.2.2.2.2.2.2.2.2.2.2.2.2.1, pw_cell_below hb8 hHeld.2.2.2.2.2.2.2.2.2.2.2.2.2.2.1, pw_cell_below hb8 hHeld.2.2.2.2.2.2.2.2.2.2.2.2.2.2.2.1, pw_cell_below hb8 hHeld.2.2.2.2.2.2.2.2.2.2.2.2.2.2.2.2.1, pw_cell_below hb8 hHeld.2.2.2.2.2.2.2.2.2.2.2.2.2.2.2.2.2.1, pw_cell_below hb8 hHeld.2.2.2.2.2.2.2.2.2.2.2.2.2.2.2.2.2.2⟩ (fun hHeld => ?_)
  clear hK K
  refine norm_ (a' := ?_) ?_ ?_
  rotate_left
  · show Act.put _ (some 9) _ = _
    simp only [Act.put, List.setIfInBounds_toArray, List.set_cons_zero, List.set_cons_succ, i64_w, i32_w]
    rfl
  refine pure_ (i := 5) (N := some 10) (v := ?_) (a' := ?_) #[true, true, true, true, true, true, false] rfl rfl (by kernel_rfl) (fun _ _ _ h => h) (Or.inl ⟨by rfl, ?_⟩) ?_ ?_
  rotate_left
  · intro w'
    go_simp
    with_reducible rfl
  rotate_left
  · simp only [Act.put, List.setIfInBounds_toArray, List.set_cons_zero, List.set_cons_succ, i64_w, i32_w]
    rfl
  refine pure_ (i := 6) (N := some 4) (v := ?_) (a' := ?_) #[true, true, true, true, true, true, true] rfl rfl (by kernel_rfl) (fun _ _ _ h => h) (Or.inl ⟨by rfl, ?_⟩) ?_ ?_
  rotate_left
  · intro w'
    go_simp
    with_reducible rfl
  rotate_left
  · simp only [Act.put, List.setIfInBounds_toArray, List.set_cons_zero, List.set_cons_succ, i64_w, i32_w]
    rfl
  refine done_ (by kernel_rfl) ?_
  have HB2 := Aside0.mk (below_step HB.out hHeld.1)
  clear hHeld
  go_wp2_with fail
  go_ret
  exact ⟨rfl, HB2.out⟩
end Go.Proofs.Ytchcbncelckgeaa.Lv
