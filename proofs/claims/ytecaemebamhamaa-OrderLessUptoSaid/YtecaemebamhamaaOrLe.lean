/- The law function OrderLess walked. -/
import Derived.Test.YtecaemebamhamaaOrOr
import Derived.Test.YtecaemebamhamaaPO2
set_option linter.unusedVariables false
set_option linter.unusedSimpArgs false
namespace Go.Proofs.Ytecaemebamhamaa.Lv
open Go.RowKit Go.Proofs.YtecaemebamhamaaW.PrintWords Go.Proofs.YtecaemebamhamaaW.PrintLast Go.Proofs.YtecaemebamhamaaW.PrintMore Go.Proofs.Ytecaemebamhamaa.PO Go.Proofs.Ytecaemebamhamaa.Hnd Go.Lib
theorem rest_n (a : Int) (m : Nat) (h0 : 0 < m) (h1 : m ≤ 1000000) : ∃ n : Nat, backstitchref3_Rest.f a (m : Int) = some (n : Int) ∧ n < m := by
  have hb := Int.tmod_lt_of_pos a (show (0 : Int) < m by omega)
  have hl := Int.lt_tmod_of_pos a (show (0 : Int) < m by omega)
  unfold backstitchref3_Rest.f
  rw [if_neg (by omega)]
  by_cases h : Int.tmod a m < 0
  · rw [if_pos h]
    have e : wrap64 (Int.tmod a m + m) = Int.tmod a m + m := by unfold wrap64; omega
    rw [e]
    exact ⟨(Int.tmod a m + m).toNat, by rw [Int.toNat_of_nonneg (by omega)], by omega⟩
  · rw [if_neg h]
    exact ⟨(Int.tmod a m).toNat, by rw [Int.toNat_of_nonneg (by omega)], by omega⟩
theorem K2.base {b B : Nat} {w wr w1 : World} (h : K2 b b w wr) (hb : Below B wr w1) (hB : w.heap.size ≤ B) (hlt : b ≤ B) : K2 b b w w1 := ⟨h.below.trans (below_cut hb (by omega)), fun k hk h1 h2 => (hb.block k (by omega)).trans (h.keep k hk h1 h2)⟩

theorem done_cell {w : World} {b : Nat} {t : Nat} {regs : List Bool} (h : w.heap[b]? = some (.cells (regs.map Value.bool).toArray t (0, 0))) (h8 : regs.length = 8) (i : Nat) (hi : i < 8) : w.cell? ⟨b, i, none⟩ = some (.bool (regs.getD i false)) := by
  rw [blk_cell h, List.getElem?_toArray, List.getElem?_map, List.getElem?_eq_getElem (by omega), List.getD_eq_getElem?_getD, List.getElem?_eq_getElem (by omega)]
  rfl
set_option maxHeartbeats 32000000 in
set_option maxRecDepth 100000 in
theorem less_calls (w : World) {AO : Option Addr} {cO : Nat} {AE : Option Addr} {cE : Nat} {A1 : Option Addr} {c1 : Nat} {A2 : Option Addr} {c2 : Nat} {A3 : Option Addr} {c3 : Nat} {A4 : Option Addr} {c4 : Nat} (c : RC) (a1 : Int) (hm : CMem w (AO := AO) (cO := cO) (AE := AE) (cE := cE) (A1 := A1) (c1 := c1) (A2 := A2) (c2 := c2) (A3 := A3) (c3 := c3) (A4 := A4) (c4 := c4) c) (hz : CSz c) :
    Calls Try.prog 5 #[.agg #[.int .i64 c.f0, .int .i64 c.f1, .int .i64 c.f2, .int .i64 c.f3, .slice AO c.f4.length cO, .slice AE c.f5.length cE, .int .i64 c.f6.f0, .int .i64 c.f6.f1, .slice A1 c.f6.f2.length c1, .slice A2 c.f6.f3.length c2, .int .i64 c.f7.f0, .int .i64 c.f7.f1, .slice A3 c.f7.f2.length c3, .slice A4 c.f7.f3.length c4], .int .i64 a1] w fun e w' => e = .returned (.bool true) ∧ Below w.heap.size w w' := by
  obtain ⟨o1, ho1⟩ : ∃ ob, ob = Obj.cells #[.int .i64 c.f0, .int .i64 c.f1, .int .i64 c.f2, .int .i64 c.f3, .slice AO c.f4.length cO, .slice AE c.f5.length cE, .int .i64 c.f6.f0, .int .i64 c.f6.f1, .slice A1 c.f6.f2.length c1, .slice A2 c.f6.f3.length c2, .int .i64 c.f7.f0, .int .i64 c.f7.f1, .slice A3 c.f7.f2.length c3, .slice A4 c.f7.f3.length c4] 29 := ⟨_, rfl⟩
  have hal := below_alloc (Below.refl w.heap.size w) o1
  have HC : Aside0 ((w.alloc o1).heap[w.heap.size]? = some (.cells #[.int .i64 c.f0, .int .i64 c.f1, .int .i64 c.f2, .int .i64 c.f3, .slice AO c.f4.length cO, .slice AE c.f5.length cE, .int .i64 c.f6.f0, .int .i64 c.f6.f1, .slice A1 c.f6.f2.length c1, .slice A2 c.f6.f3.length c2, .int .i64 c.f7.f0, .int .i64 c.f7.f1, .slice A3 c.f7.f2.length c3, .slice A4 c.f7.f3.length c4] 29 (0, 0))) := ⟨by rw [ho1]; exact blk_new w _⟩
  have HB := Aside0.mk hal
  have HM := Aside0.mk hm
  have HZ := Aside0.mk hz
  clear hal hm hz
  go_enter Try.func5, Try.ntmps5
  go_wp2_with fail
  rw [← ho1]
  clear ho1
  generalize w.alloc o1 = wa at HC HB ⊢
  refine (ordered_calls _).mono ?_
  rintro e w2 ⟨rfl, hb2⟩
  have HB2 := Aside0.mk (below_step HB.out hb2)
  have HC2 := Aside0.mk (blk_below HC.out hb2)
  clear hb2 HB HC
  have y0 := (blk_cell HC2.out 0).trans rfl
  have y1 := (blk_cell HC2.out 1).trans rfl
  have y2 := (blk_cell HC2.out 2).trans rfl
  have y3 := (blk_cell HC2.out 3).trans rfl
  have y4 := (blk_cell HC2.out 4).trans rfl
  have y5 := (blk_cell HC2.out 5).trans rfl
  have y6 := (blk_cell HC2.out 6).trans rfl
  have y7 := (blk_cell HC2.out 7).trans rfl
  have y8 := (blk_cell HC2.out 8).trans rfl
  have y9 := (blk_cell HC2.out 9).trans rfl
  have y10 := (blk_cell HC2.out 10).trans rfl
  have y11 := (blk_cell HC2.out 11).trans rfl
  have y12 := (blk_cell HC2.out 12).trans rfl
  have y13 := (blk_cell HC2.out 13).trans rfl
  go_wp2_with fail
  refine (ocheck_calls w2 c (HM.out.below HB2.out) HZ.out).mono ?_
  rintro e w3 ⟨er, rfl, hchk, hb3⟩
  have HB3 := Aside0.mk (below_step HB2.out hb3)
  have HC3 := Aside0.mk (blk_below HC2.out hb3)
  clear hb3 HB2 HC2 y0 y1 y2 y3 y4 y5 y6 y7 y8 y9 y10 y11 y12 y13
  by_cases her : er ≠ 0
  · have hed : (er != 0) = true := bne_iff_ne.mpr her
    clear hchk her
    go_wp2_with fail
    refine (ordered_calls _).mono ?_
    rintro e w4 ⟨rfl, hb4⟩
    have HB4 := Aside0.mk (below_step HB3.out hb4)
    clear hb4
    go_wp2_with fail
    go_ret
    exact ⟨rfl, HB4.out⟩
  have her : er = 0 := Decidable.not_not.1 her
  subst her
  have HG := Aside0.mk hchk.good
  clear hchk
  have he0 : ((0 : Int) != 0) = false := by decide
  have HN4 : Aside0 (c.f4.length ≤ 1500 ∧ c.f5.length ≤ 200) := ⟨by have := large_parts HG.out.la; omega⟩
  have y0 := (blk_cell HC3.out 0).trans rfl
  have y1 := (blk_cell HC3.out 1).trans rfl
  have y3 := (blk_cell HC3.out 3).trans rfl
  have y4 := (blk_cell HC3.out 4).trans rfl
  obtain ⟨n, hn, hnl⟩ := rest_n a1 (c.f4.length + 1) (by omega) (by have := HN4.out; omega)
  have hw64 : wrap64 ((c.f4.length : Int) + 1) = ((c.f4.length + 1 : Nat) : Int) := by have := HN4.out; unfold wrap64; omega
  rw [← hw64] at hn
  have HN := Aside0.mk hn
  have HNL : Aside0 (n ≤ c.f4.length ∧ c.f4.length ≤ cO) := ⟨by omega, HM.out.oc⟩
  have HLEN : Aside0 ((c.f4.take n).length = n) := ⟨by rw [List.length_take]; omega⟩
  have hp0 : ((0 : Int) ≤ (n : Int)) = True := eq_true (by omega)
  have hp2 : ((n : Int) ≤ (cO : Int)) = True := eq_true (by have h1_ := HNL.out; omega)
  have htn : ((n : Int)).toNat = n := Int.toNat_natCast n
  clear hn hnl hw64
  go_upto_region 5 with fail
  refine start_ (n := 21) (S := fun w' => Below w3.heap.size w3 w' ∧ w'.cell? ⟨w.heap.size, 0, none⟩ = some (.int .i64 c.f0) ∧ w'.cell? ⟨w.heap.size, 1, none⟩ = some (.int .i64 c.f1) ∧ w'.cell? ⟨w.heap.size, 3, none⟩ = some (.int .i64 c.f3) ∧ w'.cell? ⟨w.heap.size, 4, none⟩ = some (.slice AO c.f4.length cO)) (ds := [20]) #[false, false, false, false, false, false, false, false, false, false, false, false, false, false, false, false, false, false, false, false, false] (by kernel_rfl) rfl rfl ⟨(below_drew (Below.refl _ _)), y0, y1, y3, y4⟩ (fun hHeld => ?_)
  generalize w3.drew = w16 at hHeld ⊢
  refine pure_ (i := 0) (N := some 12) (v := ?_) (a' := ?_) #[true, false, false, false, false, false, false, false, false, false, false, false, false, false, false, false, false, false, false, false, false] rfl rfl (by kernel_rfl) (fun _ _ _ h => h) (Or.inl ⟨by rfl, ?_⟩) ?_ ?_
  rotate_left
  · intro w'
    go_simp
    with_reducible rfl
  rotate_left
  · simp only [Act.put, List.setIfInBounds_toArray, List.set_cons_zero, List.set_cons_succ, i64_w, i32_w]
    rfl
  refine pure_ (i := 2) (N := some 14) (v := ?_) (a' := ?_) #[true, false, true, false, false, false, false, false, false, false, false, false, false, false, false, false, false, false, false, false, false] rfl rfl (by kernel_rfl) (fun _ _ _ h => h) (Or.inl ⟨by rfl, ?_⟩) ?_ ?_
  rotate_left
  · intro w'
    go_simp
    with_reducible rfl
  rotate_left
  · simp only [Act.put, List.setIfInBounds_toArray, List.set_cons_zero, List.set_cons_succ, i64_w, i32_w]
    rfl
  refine pure_ (i := 4) (N := some 16) (v := ?_) (a' := ?_) #[true, false, true, false, true, false, false, false, false, false, false, false, false, false, false, false, false, false, false, false, false] rfl rfl (by kernel_rfl) (fun _ _ _ h => h) (Or.inl ⟨by rfl, ?_⟩) ?_ ?_
  rotate_left
  · intro w'
    go_simp
    with_reducible rfl
  rotate_left
  · simp only [Act.put, List.setIfInBounds_toArray, List.set_cons_zero, List.set_cons_succ, i64_w, i32_w]
    rfl
  refine pure_ (i := 6) (N := some 18) (v := ?_) (a' := ?_) #[true, false, true, false, true, false, true, false, false, false, false, false, false, false, false, false, false, false, false, false, false] rfl rfl (by kernel_rfl) (fun _ _ _ h => h) (Or.inl ⟨by rfl, ?_⟩) ?_ ?_
  rotate_left
  · intro w'
    go_simp
    with_reducible rfl
  rotate_left
  · simp only [Act.put, List.setIfInBounds_toArray, List.set_cons_zero, List.set_cons_succ, i64_w, i32_w]
    rfl
  refine pure_ (i := 8) (N := some 20) (v := ?_) (a' := ?_) #[true, false, true, false, true, false, true, false, true, false, false, false, false, false, false, false, false, false, false, false, false] rfl rfl (by kernel_rfl) (fun _ _ _ h => h) (Or.inl ⟨by rfl, ?_⟩) ?_ ?_
  rotate_left
  · intro w'
    go_simp
    with_reducible rfl
  rotate_left
  · simp only [Act.put, List.setIfInBounds_toArray, List.set_cons_zero, List.set_cons_succ, i64_w, i32_w]
    rfl
  refine pure_ (i := 9) (N := some 21) (v := ?_) (a' := ?_) #[true, false, true, false, true, false, true, false, true, true, false, false, false, false, false, false, false, false, false, false, false] rfl rfl (by kernel_rfl) (fun _ _ _ h => h) (Or.inl ⟨by rfl, ?_⟩) ?_ ?_
  rotate_left
  · intro w'
    go_simp
    with_reducible rfl
  rotate_left
  · simp only [Act.put, List.setIfInBounds_toArray, List.set_cons_zero, List.set_cons_succ, i64_w, i32_w]
    rfl
  refine pure_ (i := 15) (N := some 27) (v := ?_) (a' := ?_) #[true, false, true, false, true, false, true, false, true, true, false, false, false, false, false, true, false, false, false, false, false] rfl rfl (by kernel_rfl) (fun _ _ _ h => h) (Or.inl ⟨by rfl, ?_⟩) ?_ ?_
  rotate_left
  · intro w'
    go_simp
    with_reducible rfl
  rotate_left
  · simp only [Act.put, List.setIfInBounds_toArray, List.set_cons_zero, List.set_cons_succ, i64_w, i32_w]
    rfl
  refine take_ (i := 1) (N := some 13) (v := ?_) (a' := ?_) #[true, true, true, false, true, false, true, false, true, true, false, false, false, false, false, true, false, false, false, false, false] rfl rfl (by kernel_rfl) (fun _ _ _ h => h) (Or.inl ⟨by rfl, ?_⟩) hHeld ?_ ?_
  rotate_left
  · rintro w' ⟨s0, s1, s2, s3, s4⟩
    go_simp
    with_reducible rfl
  rotate_left
  · simp only [Act.put, List.setIfInBounds_toArray, List.set_cons_zero, List.set_cons_succ, i64_w, i32_w]
    rfl
  refine take_ (i := 3) (N := some 15) (v := ?_) (a' := ?_) #[true, true, true, true, true, false, true, false, true, true, false, false, false, false, false, true, false, false, false, false, false] rfl rfl (by kernel_rfl) (fun _ _ _ h => h) (Or.inl ⟨by rfl, ?_⟩) hHeld ?_ ?_
  rotate_left
  · rintro w' ⟨s0, s1, s2, s3, s4⟩
    go_simp
    with_reducible rfl
  rotate_left
  · simp only [Act.put, List.setIfInBounds_toArray, List.set_cons_zero, List.set_cons_succ, i64_w, i32_w]
    rfl
  refine take_ (i := 5) (N := some 17) (v := ?_) (a' := ?_) #[true, true, true, true, true, true, true, false, true, true, false, false, false, false, false, true, false, false, false, false, false] rfl rfl (by kernel_rfl) (fun _ _ _ h => h) (Or.inl ⟨by rfl, ?_⟩) hHeld ?_ ?_
  rotate_left
  · rintro w' ⟨s0, s1, s2, s3, s4⟩
    go_simp
    with_reducible rfl
  rotate_left
  · simp only [Act.put, List.setIfInBounds_toArray, List.set_cons_zero, List.set_cons_succ, i64_w, i32_w]
    rfl
  refine take_ (i := 7) (N := some 19) (v := ?_) (a' := ?_) #[true, true, true, true, true, true, true, true, true, true, false, false, false, false, false, true, false, false, false, false, false] rfl rfl (by kernel_rfl) (fun _ _ _ h => h) (Or.inl ⟨by rfl, ?_⟩) hHeld ?_ ?_
  rotate_left
  · rintro w' ⟨s0, s1, s2, s3, s4⟩
    go_simp
    with_reducible rfl
  rotate_left
  · simp only [Act.put, List.setIfInBounds_toArray, List.set_cons_zero, List.set_cons_succ, i64_w, i32_w]
    rfl
  refine take_ (i := 10) (N := some 22) (v := ?_) (a' := ?_) #[true, true, true, true, true, true, true, true, true, true, true, false, false, false, false, true, false, false, false, false, false] rfl rfl (by kernel_rfl) (fun _ _ _ h => h) (Or.inl ⟨by rfl, ?_⟩) hHeld ?_ ?_
  rotate_left
  · rintro w' ⟨s0, s1, s2, s3, s4⟩
    go_simp
    with_reducible rfl
  rotate_left
  · simp only [Act.put, List.setIfInBounds_toArray, List.set_cons_zero, List.set_cons_succ, i64_w, i32_w]
    rfl
  refine pure_ (i := 11) (N := some 23) (v := ?_) (a' := ?_) #[true, true, true, true, true, true, true, true, true, true, true, true, false, false, false, true, false, false, false, false, false] rfl rfl (by kernel_rfl) (fun _ _ _ h => h) (Or.inl ⟨by rfl, ?_⟩) ?_ ?_
  rotate_left
  · intro w'
    go_simp
    with_reducible rfl
  rotate_left
  · simp only [Act.put, List.setIfInBounds_toArray, List.set_cons_zero, List.set_cons_succ, i64_w, i32_w]
    rfl
  refine pure_ (i := 12) (N := some 24) (v := ?_) (a' := ?_) #[true, true, true, true, true, true, true, true, true, true, true, true, true, false, false, true, false, false, false, false, false] rfl rfl (by kernel_rfl) (fun _ _ _ h => h) (Or.inl ⟨by rfl, ?_⟩) ?_ ?_
  rotate_left
  · intro w'
    go_simp
    with_reducible rfl
  rotate_left
  · simp only [Act.put, List.setIfInBounds_toArray, List.set_cons_zero, List.set_cons_succ, i64_w, i32_w]
    rfl
  refine take_ (i := 16) (N := some 28) (v := ?_) (a' := ?_) #[true, true, true, true, true, true, true, true, true, true, true, true, true, false, false, true, true, false, false, false, false] rfl rfl (by kernel_rfl) (fun _ _ _ h => h) (Or.inl ⟨by rfl, ?_⟩) hHeld ?_ ?_
  rotate_left
  · rintro w' ⟨s0, s1, s2, s3, s4⟩
    go_simp
    with_reducible rfl
  rotate_left
  · simp only [Act.put, List.setIfInBounds_toArray, List.set_cons_zero, List.set_cons_succ, i64_w, i32_w]
    rfl
  refine pure_ (i := 17) (N := some 29) (v := ?_) (a' := ?_) #[true, true, true, true, true, true, true, true, true, true, true, true, true, false, false, true, true, true, false, false, false] rfl rfl (by kernel_rfl) (fun _ _ _ h => h) (Or.inl ⟨by rfl, ?_⟩) ?_ ?_
  rotate_left
  · intro w'
    go_simp
    with_reducible rfl
  rotate_left
  · simp only [Act.put, List.setIfInBounds_toArray, List.set_cons_zero, List.set_cons_succ, i64_w, i32_w]
    rfl
  refine join_ (σ := Nat) 1 #[true, true, true, true, true, true, true, true, true, true, true, true, true, true, true, true, true, true, true, true, false] (fun s => [(25, .int .i64 (n : Int)), (5, .pointer (some ⟨s, 0, none⟩)), (26, .slice AO n cO), (30, .agg #[.int .i64 c.f0, .int .i64 c.f1, .int .i64 0, .int .i64 c.f3, .slice AO n cO, .slice none 0 0, .int .i64 0, .int .i64 0, .slice none 0 0, .slice none 0 0, .int .i64 c.f1, .int .i64 0, .slice none 0 0, .slice none 0 0])]) (fun s w' => (Below w3.heap.size w3 w' ∧ w'.cell? ⟨w.heap.size, 0, none⟩ = some (.int .i64 c.f0) ∧ w'.cell? ⟨w.heap.size, 1, none⟩ = some (.int .i64 c.f1) ∧ w'.cell? ⟨w.heap.size, 3, none⟩ = some (.int .i64 c.f3) ∧ w'.cell? ⟨w.heap.size, 4, none⟩ = some (.slice AO c.f4.length cO)) ∧ w'.heap[s]? = some (.cells #[.int .i64 0, .int .i64 0, .int .i64 0, .int .i64 0, .slice none 0 0, .slice none 0 0, .int .i64 0, .int .i64 0, .slice none 0 0, .slice none 0 0, .int .i64 0, .int .i64 0, .slice none 0 0, .slice none 0 0] 29 (0, 0)) ∧ w3.heap.size ≤ s) ?_ ?_
  rotate_left
  · intro hCont
    refine two_ (i := 13) (j := 19) (Ni := some 25) (Nj := some 5) #[true, true, true, true, true, true, true, true, true, true, true, true, true, true, false, true, true, true, false, false, false] #[true, true, true, true, true, true, true, true, true, true, true, true, true, false, false, true, true, true, false, true, false] rfl rfl rfl rfl (by kernel_rfl) (by decide) (by decide) (fun K hK => ?_) (fun K hK => ?_)
    · skip
      refine goes_ Try.func17 (by kernel_rfl) rfl #[.int .i64 a1, .int .i64 (wrap64 ((c.f4.length : Int) + 1))] (by rfl) rfl rfl (by simp only [List.map_toArray, List.map_cons, List.map_nil]; rfl) ?_
      with_reducible refine (backstitchref3_Rest.calls a1 _ (n : Int) _ HN.out).mono ?_
      rintro e w6 ⟨rfl, hd⟩
      refine ⟨_, rfl, ?_⟩
      refine hK.out _ _ ⟨hHeld.1.trans (below_cut hd.below hHeld.1.size), pw_cell_below hd.below hHeld.2.1, pw_cell_below hd.below hHeld.2.2.1, pw_cell_below hd.below hHeld.2.2.2.1, pw_cell_below hd.below hHeld.2.2.2.2⟩ (fun hHeld => ?_)
      clear hK K
      refine norm_ (a' := ?_) ?_ ?_
      rotate_left
      · show Act.put _ (some 25) _ = _
        simp only [Act.put, List.setIfInBounds_toArray, List.set_cons_zero, List.set_cons_succ, i64_w, i32_w]
        rfl
      refine pure_ (i := 14) (N := some 26) (v := ?_) (a' := ?_) #[true, true, true, true, true, true, true, true, true, true, true, true, true, true, true, true, true, true, false, false, false] rfl rfl (by kernel_rfl) (fun _ _ _ h => h) (Or.inl ⟨by rfl, ?_⟩) ?_ ?_
      rotate_left
      · intro w'
        go_simp
        with_reducible rfl
      rotate_left
      · simp only [Act.put, List.setIfInBounds_toArray, List.set_cons_zero, List.set_cons_succ, i64_w, i32_w]
        rfl
      refine pure_ (i := 18) (N := some 30) (v := ?_) (a' := ?_) #[true, true, true, true, true, true, true, true, true, true, true, true, true, true, true, true, true, true, true, false, false] rfl rfl (by kernel_rfl) (fun _ _ _ h => h) (Or.inl ⟨by rfl, ?_⟩) ?_ ?_
      rotate_left
      · intro w'
        go_simp
        with_reducible rfl
      rotate_left
      · simp only [Act.put, List.setIfInBounds_toArray, List.set_cons_zero, List.set_cons_succ, i64_w, i32_w]
        rfl
      refine one_ (i := 19) (N := some 5) #[true, true, true, true, true, true, true, true, true, true, true, true, true, true, true, true, true, true, true, true, false] rfl rfl (by kernel_rfl) (by decide) (fun K hK => ?_)
      have hgl := hHeld.1.size
      have hl := heap_alloc_new w6 (Obj.cells #[.int .i64 0, .int .i64 0, .int .i64 0, .int .i64 0, .slice none 0 0, .slice none 0 0, .int .i64 0, .int .i64 0, .slice none 0 0, .slice none 0 0, .int .i64 0, .int .i64 0, .slice none 0 0, .slice none 0 0] 29)
      refine value_ (w1 := ?_) (v := ?_) (by rfl) rfl ?_ ?_
      rotate_left 2
      · go_simp
        constructor
        · rfl
        · rfl
      refine hK.out _ _ ⟨hHeld.1.alloc hHeld.1.size _, pw_cell_below (below_alloc (Below.refl _ _) _) hHeld.2.1, pw_cell_below (below_alloc (Below.refl _ _) _) hHeld.2.2.1, pw_cell_below (below_alloc (Below.refl _ _) _) hHeld.2.2.2.1, pw_cell_below (below_alloc (Below.refl _ _) _) hHeld.2.2.2.2⟩ (fun hHeld => ?_)
      clear hK K
      refine norm_ (a' := ?_) ?_ ?_
      rotate_left
      · show Act.put _ (some 5) _ = _
        simp only [Act.put, List.setIfInBounds_toArray, List.set_cons_zero, List.set_cons_succ, i64_w, i32_w]
        rfl
      exact norm_ (by simp only [putAll, Act.put, List.setIfInBounds_toArray, List.set_cons_zero, List.set_cons_succ]) (hCont w6.heap.size _ ⟨hHeld, hl, hgl⟩)
    · skip
      have hgl := hHeld.1.size
      have hl := heap_alloc_new w16 (Obj.cells #[.int .i64 0, .int .i64 0, .int .i64 0, .int .i64 0, .slice none 0 0, .slice none 0 0, .int .i64 0, .int .i64 0, .slice none 0 0, .slice none 0 0, .int .i64 0, .int .i64 0, .slice none 0 0, .slice none 0 0] 29)
      refine value_ (w1 := ?_) (v := ?_) (by rfl) rfl ?_ ?_
      rotate_left 2
      · go_simp
        constructor
        · rfl
        · rfl
      refine hK.out _ _ ⟨hHeld.1.alloc hHeld.1.size _, pw_cell_below (below_alloc (Below.refl _ _) _) hHeld.2.1, pw_cell_below (below_alloc (Below.refl _ _) _) hHeld.2.2.1, pw_cell_below (below_alloc (Below.refl _ _) _) hHeld.2.2.2.1, pw_cell_below (below_alloc (Below.refl _ _) _) hHeld.2.2.2.2⟩ (fun hHeld => ?_)
      clear hK K
      refine norm_ (a' := ?_) ?_ ?_
      rotate_left
      · show Act.put _ (some 5) _ = _
        simp only [Act.put, List.setIfInBounds_toArray, List.set_cons_zero, List.set_cons_succ, i64_w, i32_w]
        rfl
      refine one_ (i := 13) (N := some 25) #[true, true, true, true, true, true, true, true, true, true, true, true, true, true, false, true, true, true, false, true, false] rfl rfl (by kernel_rfl) (by decide) (fun K hK => ?_)
      refine goes_ Try.func17 (by kernel_rfl) rfl #[.int .i64 a1, .int .i64 (wrap64 ((c.f4.length : Int) + 1))] (by rfl) rfl rfl (by simp only [List.map_toArray, List.map_cons, List.map_nil]; rfl) ?_
      with_reducible refine (backstitchref3_Rest.calls a1 _ (n : Int) _ HN.out).mono ?_
      rintro e w6 ⟨rfl, hd⟩
      refine ⟨_, rfl, ?_⟩
      have hl := blk_below hl hd.below
      refine hK.out _ _ ⟨hHeld.1.trans (below_cut hd.below hHeld.1.size), pw_cell_below hd.below hHeld.2.1, pw_cell_below hd.below hHeld.2.2.1, pw_cell_below hd.below hHeld.2.2.2.1, pw_cell_below hd.below hHeld.2.2.2.2⟩ (fun hHeld => ?_)
      clear hK K
      refine norm_ (a' := ?_) ?_ ?_
      rotate_left
      · show Act.put _ (some 25) _ = _
        simp only [Act.put, List.setIfInBounds_toArray, List.set_cons_zero, List.set_cons_succ, i64_w, i32_w]
        rfl
      refine pure_ (i := 14) (N := some 26) (v := ?_) (a' := ?_) #[true, true, true, true, true, true, true, true, true, true, true, true, true, true, true, true, true, true, false, true, false] rfl rfl (by kernel_rfl) (fun _ _ _ h => h) (Or.inl ⟨by rfl, ?_⟩) ?_ ?_
      rotate_left
      · intro w'
        go_simp
        with_reducible rfl
      rotate_left
      · simp only [Act.put, List.setIfInBounds_toArray, List.set_cons_zero, List.set_cons_succ, i64_w, i32_w]
        rfl
      refine pure_ (i := 18) (N := some 30) (v := ?_) (a' := ?_) #[true, true, true, true, true, true, true, true, true, true, true, true, true, true, true, true, true, true, true, true, false] rfl rfl (by kernel_rfl) (fun _ _ _ h => h) (Or.inl ⟨by rfl, ?_⟩) ?_ ?_
      rotate_left
      · intro w'
        go_simp
        with_reducible rfl
      rotate_left
      · simp only [Act.put, List.setIfInBounds_toArray, List.set_cons_zero, List.set_cons_succ, i64_w, i32_w]
        rfl
      exact norm_ (by simp only [putAll, Act.put, List.setIfInBounds_toArray, List.set_cons_zero, List.set_cons_succ]) (hCont w16.heap.size _ ⟨hHeld, hl, hgl⟩)
  rintro gl w7 ⟨hS_, hl, hgl⟩
  have hHeld := hS_
  refine norm_ (a' := ?_) ?_ ?_
  rotate_left
  · simp only [putAll, Act.put, List.setIfInBounds_toArray, List.set_cons_zero, List.set_cons_succ]
    rfl
  refine last_ (i := 20) (N := none) #[true, true, true, true, true, true, true, true, true, true, true, true, true, true, true, true, true, true, true, true, true] rfl rfl (by kernel_rfl) (by decide) (fun K hK => ?_)
  have hf0 : w7.frozen? ⟨gl, 0, none⟩ = false := blk_frozen hl 0
  have hf1 : w7.frozen? ⟨gl, 1, none⟩ = false := blk_frozen hl 1
  have hf2 : w7.frozen? ⟨gl, 2, none⟩ = false := blk_frozen hl 2
  have hf3 : w7.frozen? ⟨gl, 3, none⟩ = false := blk_frozen hl 3
  have hf4 : w7.frozen? ⟨gl, 4, none⟩ = false := blk_frozen hl 4
  have hf5 : w7.frozen? ⟨gl, 5, none⟩ = false := blk_frozen hl 5
  have hf6 : w7.frozen? ⟨gl, 6, none⟩ = false := blk_frozen hl 6
  have hf7 : w7.frozen? ⟨gl, 7, none⟩ = false := blk_frozen hl 7
  have hf8 : w7.frozen? ⟨gl, 8, none⟩ = false := blk_frozen hl 8
  have hf9 : w7.frozen? ⟨gl, 9, none⟩ = false := blk_frozen hl 9
  have hf10 : w7.frozen? ⟨gl, 10, none⟩ = false := blk_frozen hl 10
  have hf11 : w7.frozen? ⟨gl, 11, none⟩ = false := blk_frozen hl 11
  have hf12 : w7.frozen? ⟨gl, 12, none⟩ = false := blk_frozen hl 12
  have hf13 : w7.frozen? ⟨gl, 13, none⟩ = false := blk_frozen hl 13
  have hc0 : w7.cell? ⟨gl, 0, none⟩ = some (.int .i64 0) := (blk_cell hl 0).trans rfl
  have hc1 : w7.cell? ⟨gl, 1, none⟩ = some (.int .i64 0) := (blk_cell hl 1).trans rfl
  have hc2 : w7.cell? ⟨gl, 2, none⟩ = some (.int .i64 0) := (blk_cell hl 2).trans rfl
  have hc3 : w7.cell? ⟨gl, 3, none⟩ = some (.int .i64 0) := (blk_cell hl 3).trans rfl
  have hc4 : w7.cell? ⟨gl, 4, none⟩ = some (.slice none 0 0) := (blk_cell hl 4).trans rfl
  have hc5 : w7.cell? ⟨gl, 5, none⟩ = some (.slice none 0 0) := (blk_cell hl 5).trans rfl
  have hc6 : w7.cell? ⟨gl, 6, none⟩ = some (.int .i64 0) := (blk_cell hl 6).trans rfl
  have hc7 : w7.cell? ⟨gl, 7, none⟩ = some (.int .i64 0) := (blk_cell hl 7).trans rfl
  have hc8 : w7.cell? ⟨gl, 8, none⟩ = some (.slice none 0 0) := (blk_cell hl 8).trans rfl
  have hc9 : w7.cell? ⟨gl, 9, none⟩ = some (.slice none 0 0) := (blk_cell hl 9).trans rfl
  have hc10 : w7.cell? ⟨gl, 10, none⟩ = some (.int .i64 0) := (blk_cell hl 10).trans rfl
  have hc11 : w7.cell? ⟨gl, 11, none⟩ = some (.int .i64 0) := (blk_cell hl 11).trans rfl
  have hc12 : w7.cell? ⟨gl, 12, none⟩ = some (.slice none 0 0) := (blk_cell hl 12).trans rfl
  have hc13 : w7.cell? ⟨gl, 13, none⟩ = some (.slice none 0 0) := (blk_cell hl 13).trans rfl
  refine skip_ (w1 := ?_) (by rfl) rfl ?_ ?_
  rotate_left
  · go_simp
    rfl
  refine hK.out _ _ ?_
  clear hK K
  refine done_ (by kernel_rfl) ?_
  have HB8 : Aside0 (Below w3.heap.size w3 ((((((((((((((w7.setCell ⟨gl, 0, none⟩ (.int .i64 c.f0)).setCell ⟨gl, 1, none⟩ (.int .i64 c.f1)).setCell ⟨gl, 2, none⟩ (.int .i64 0)).setCell ⟨gl, 3, none⟩ (.int .i64 c.f3)).setCell ⟨gl, 4, none⟩ (.slice AO n cO)).setCell ⟨gl, 5, none⟩ (.slice none 0 0)).setCell ⟨gl, 6, none⟩ (.int .i64 0)).setCell ⟨gl, 7, none⟩ (.int .i64 0)).setCell ⟨gl, 8, none⟩ (.slice none 0 0)).setCell ⟨gl, 9, none⟩ (.slice none 0 0)).setCell ⟨gl, 10, none⟩ (.int .i64 c.f1)).setCell ⟨gl, 11, none⟩ (.int .i64 0)).setCell ⟨gl, 12, none⟩ (.slice none 0 0)).setCell ⟨gl, 13, none⟩ (.slice none 0 0))) := ⟨((((((((((((((hS_.1.setCell hgl _).setCell hgl _).setCell hgl _).setCell hgl _).setCell hgl _).setCell hgl _).setCell hgl _).setCell hgl _).setCell hgl _).setCell hgl _).setCell hgl _).setCell hgl _).setCell hgl _).setCell hgl _)⟩
  have HD8 : Aside0 (((((((((((((((w7.setCell ⟨gl, 0, none⟩ (.int .i64 c.f0)).setCell ⟨gl, 1, none⟩ (.int .i64 c.f1)).setCell ⟨gl, 2, none⟩ (.int .i64 0)).setCell ⟨gl, 3, none⟩ (.int .i64 c.f3)).setCell ⟨gl, 4, none⟩ (.slice AO n cO)).setCell ⟨gl, 5, none⟩ (.slice none 0 0)).setCell ⟨gl, 6, none⟩ (.int .i64 0)).setCell ⟨gl, 7, none⟩ (.int .i64 0)).setCell ⟨gl, 8, none⟩ (.slice none 0 0)).setCell ⟨gl, 9, none⟩ (.slice none 0 0)).setCell ⟨gl, 10, none⟩ (.int .i64 c.f1)).setCell ⟨gl, 11, none⟩ (.int .i64 0)).setCell ⟨gl, 12, none⟩ (.slice none 0 0)).setCell ⟨gl, 13, none⟩ (.slice none 0 0)).heap[gl]? = some (.cells #[.int .i64 c.f0, .int .i64 c.f1, .int .i64 0, .int .i64 c.f3, .slice AO n cO, .slice none 0 0, .int .i64 0, .int .i64 0, .slice none 0 0, .slice none 0 0, .int .i64 c.f1, .int .i64 0, .slice none 0 0, .slice none 0 0] 29 (0, 0))) := ⟨(blk_put (cs' := #[.int .i64 c.f0, .int .i64 c.f1, .int .i64 0, .int .i64 c.f3, .slice AO n cO, .slice none 0 0, .int .i64 0, .int .i64 0, .slice none 0 0, .slice none 0 0, .int .i64 c.f1, .int .i64 0, .slice none 0 0, .slice none 0 0]) (blk_put (cs' := #[.int .i64 c.f0, .int .i64 c.f1, .int .i64 0, .int .i64 c.f3, .slice AO n cO, .slice none 0 0, .int .i64 0, .int .i64 0, .slice none 0 0, .slice none 0 0, .int .i64 c.f1, .int .i64 0, .slice none 0 0, .slice none 0 0]) (blk_put (cs' := #[.int .i64 c.f0, .int .i64 c.f1, .int .i64 0, .int .i64 c.f3, .slice AO n cO, .slice none 0 0, .int .i64 0, .int .i64 0, .slice none 0 0, .slice none 0 0, .int .i64 c.f1, .int .i64 0, .slice none 0 0, .slice none 0 0]) (blk_put (cs' := #[.int .i64 c.f0, .int .i64 c.f1, .int .i64 0, .int .i64 c.f3, .slice AO n cO, .slice none 0 0, .int .i64 0, .int .i64 0, .slice none 0 0, .slice none 0 0, .int .i64 c.f1, .int .i64 0, .slice none 0 0, .slice none 0 0]) (blk_put (cs' := #[.int .i64 c.f0, .int .i64 c.f1, .int .i64 0, .int .i64 c.f3, .slice AO n cO, .slice none 0 0, .int .i64 0, .int .i64 0, .slice none 0 0, .slice none 0 0, .int .i64 0, .int .i64 0, .slice none 0 0, .slice none 0 0]) (blk_put (cs' := #[.int .i64 c.f0, .int .i64 c.f1, .int .i64 0, .int .i64 c.f3, .slice AO n cO, .slice none 0 0, .int .i64 0, .int .i64 0, .slice none 0 0, .slice none 0 0, .int .i64 0, .int .i64 0, .slice none 0 0, .slice none 0 0]) (blk_put (cs' := #[.int .i64 c.f0, .int .i64 c.f1, .int .i64 0, .int .i64 c.f3, .slice AO n cO, .slice none 0 0, .int .i64 0, .int .i64 0, .slice none 0 0, .slice none 0 0, .int .i64 0, .int .i64 0, .slice none 0 0, .slice none 0 0]) (blk_put (cs' := #[.int .i64 c.f0, .int .i64 c.f1, .int .i64 0, .int .i64 c.f3, .slice AO n cO, .slice none 0 0, .int .i64 0, .int .i64 0, .slice none 0 0, .slice none 0 0, .int .i64 0, .int .i64 0, .slice none 0 0, .slice none 0 0]) (blk_put (cs' := #[.int .i64 c.f0, .int .i64 c.f1, .int .i64 0, .int .i64 c.f3, .slice AO n cO, .slice none 0 0, .int .i64 0, .int .i64 0, .slice none 0 0, .slice none 0 0, .int .i64 0, .int .i64 0, .slice none 0 0, .slice none 0 0]) (blk_put (cs' := #[.int .i64 c.f0, .int .i64 c.f1, .int .i64 0, .int .i64 c.f3, .slice AO n cO, .slice none 0 0, .int .i64 0, .int .i64 0, .slice none 0 0, .slice none 0 0, .int .i64 0, .int .i64 0, .slice none 0 0, .slice none 0 0]) (blk_put (cs' := #[.int .i64 c.f0, .int .i64 c.f1, .int .i64 0, .int .i64 c.f3, .slice none 0 0, .slice none 0 0, .int .i64 0, .int .i64 0, .slice none 0 0, .slice none 0 0, .int .i64 0, .int .i64 0, .slice none 0 0, .slice none 0 0]) (blk_put (cs' := #[.int .i64 c.f0, .int .i64 c.f1, .int .i64 0, .int .i64 0, .slice none 0 0, .slice none 0 0, .int .i64 0, .int .i64 0, .slice none 0 0, .slice none 0 0, .int .i64 0, .int .i64 0, .slice none 0 0, .slice none 0 0]) (blk_put (cs' := #[.int .i64 c.f0, .int .i64 c.f1, .int .i64 0, .int .i64 0, .slice none 0 0, .slice none 0 0, .int .i64 0, .int .i64 0, .slice none 0 0, .slice none 0 0, .int .i64 0, .int .i64 0, .slice none 0 0, .slice none 0 0]) (blk_put (cs' := #[.int .i64 c.f0, .int .i64 0, .int .i64 0, .int .i64 0, .slice none 0 0, .slice none 0 0, .int .i64 0, .int .i64 0, .slice none 0 0, .slice none 0 0, .int .i64 0, .int .i64 0, .slice none 0 0, .slice none 0 0]) hl 0 _ rfl) 1 _ rfl) 2 _ rfl) 3 _ rfl) 4 _ rfl) 5 _ rfl) 6 _ rfl) 7 _ rfl) 8 _ rfl) 9 _ rfl) 10 _ rfl) 11 _ rfl) 12 _ rfl) 13 _ rfl)⟩
  have HGL : Aside0 (w3.heap.size ≤ gl) := ⟨hgl⟩
  clear hS_ hl hgl hHeld hp0 hp2 htn y0 y1 y3 y4
  generalize ((((((((((((((w7.setCell ⟨gl, 0, none⟩ (.int .i64 c.f0)).setCell ⟨gl, 1, none⟩ (.int .i64 c.f1)).setCell ⟨gl, 2, none⟩ (.int .i64 0)).setCell ⟨gl, 3, none⟩ (.int .i64 c.f3)).setCell ⟨gl, 4, none⟩ (.slice AO n cO)).setCell ⟨gl, 5, none⟩ (.slice none 0 0)).setCell ⟨gl, 6, none⟩ (.int .i64 0)).setCell ⟨gl, 7, none⟩ (.int .i64 0)).setCell ⟨gl, 8, none⟩ (.slice none 0 0)).setCell ⟨gl, 9, none⟩ (.slice none 0 0)).setCell ⟨gl, 10, none⟩ (.int .i64 c.f1)).setCell ⟨gl, 11, none⟩ (.int .i64 0)).setCell ⟨gl, 12, none⟩ (.slice none 0 0)).setCell ⟨gl, 13, none⟩ (.slice none 0 0)) = w8 at HB8 HD8 ⊢
  have HC8 := Aside0.mk (blk_below HC3.out HB8.out)
  have HW8 := Aside0.mk (below_step HB3.out HB8.out)
  have HGL2 : Aside0 (w.heap.size < gl ∧ gl < w8.heap.size) := ⟨by have := blk_lt HC3.out; have := HGL.out; omega, blk_lt HD8.out⟩
  clear HB3 HC3 HB8 HGL
  have y5 := (blk_cell HC8.out 5).trans rfl
  go_wp2_with fail
  clear y5
  go_loopg [34] c.f5.length (fun kq v34 W => ∃ (i : Nat) (A : Option Addr) (cc : Nat), v34 = .int .i64 (i : Int) ∧ Aside0 (i ≤ c.f5.length ∧ kq = c.f5.length - i) ∧ Aside0 (W.heap[gl]? = some (.cells #[.int .i64 c.f0, .int .i64 c.f1, .int .i64 0, .int .i64 c.f3, .slice AO n cO, .slice A i cc, .int .i64 0, .int .i64 0, .slice none 0 0, .slice none 0 0, .int .i64 c.f1, .int .i64 0, .slice none 0 0, .slice none 0 0] 29 (0, 0))) ∧ Aside0 (Kd.N k27 27 W w8.heap.size (fun k_ => w8.heap.size ≤ k_) (.slice A i cc) (List.replicate i xZ)) ∧ Aside0 (K2 gl gl w8 W))
  case atStart => exact ⟨0, none, 0, rfl, ⟨Nat.zero_le _, by omega⟩, HD8, ⟨Kd.N_nil _ _ _ _ _⟩, ⟨K2.refl _ _ _⟩⟩
  case round =>
    obtain ⟨i, A, cc, rfl, HIQ, HD, HO, HK⟩ := hrel
    have HBi : Aside0 (Below w.heap.size w wr) := ⟨HW8.out.trans (below_cut HK.out.below (by have := HGL2.out; omega))⟩
    have HSi : Aside0 (w8.heap.size ≤ wr.heap.size) := ⟨HK.out.below.size⟩
    by_cases hlt : i < c.f5.length
    · have hi1 : (i : Int) < (c.f5.length : Int) := by omega
      have hdec : decide ((i : Int) < (c.f5.length : Int)) = true := decide_eq_true hi1
      have hdec2 : decide (i < c.f5.length) = true := decide_eq_true hlt
      have HLT := Aside0.mk hlt
      have HW64 : Aside0 (wrap64 ((i : Int) + 1) = ((i + 1 : Nat) : Int)) := ⟨by have := HN4.out; unfold wrap64; omega⟩
      clear hlt
      have x5 := (blk_cell HD.out 5).trans rfl
      have HU := Try.underlying23
      have HKZ : Aside0 (Kd.FK k27 wr (fun _ => False) xZ [.int .i64 0, .int .i64 0, .slice none 0 0, .slice none 0 0]) := ⟨mkRX xZ (Nat.le_refl 0) (fun W' _ => Kd.C_nil _ _) (Nat.le_refl 0) (fun W' _ => Kd.C_nil _ _)⟩
      go_wp2_with (first | ((with_reducible refine gate_dst (N := 39) rfl ?_); refine Kd.N_lit k27 _ 27 ?hg (N' := 39) ?hd (xs := [xZ]) (inner := [.int .i64 0, .int .i64 0, .slice none 0 0, .slice none 0 0]) (ok := fun k_ => wr.heap.size ≤ k_) (okp := fun _ => False) ?hr ?hp (fun _ hk => hk.elim) (Nat.le_refl _) (Below.refl _ _) (Nat.le_refl _) (by simp) ?_; (case hd => rfl); (case hg => rfl); (case hr => first | (go_simp; done) | (go_simp; rfl)); (case hp => exact Reps.front HKZ.out rfl (Reps.none _ _) rfl); intro v7 w7_ ho hb hg hnew; obtain ⟨A7, a7, e7⟩ := Kd.N_slice ho; subst e7; have HO7 := Aside0.mk ho; have HB7 := Aside0.mk hb; clear ho hb hg hnew) | ((with_reducible refine gate_builtin (b := .append) (xs := #[.tmp 37, .tmp 39]) rfl ?_); refine Kd.N_append_rows k27 (w0 := wr) w8.heap.size rfl (.tmp 37) (.tmp 39) 23 27 (.agg #[.int .i64 0, .int .i64 0, .slice none 0 0, .slice none 0 0]) 64 rfl HU infoRX rfl (by decide) (by decide) (.slice A i cc) (List.replicate i xZ) [xZ] A7 1 a7 (fun k_ => w8.heap.size ≤ k_) (fun k_ => wr.heap.size ≤ k_) rfl rfl (Kd.N_below HO.out HB7.out) (Kd.N_F HO7.out) ?ho ?hf (below_cut HB7.out HSi.out) (Nat.le_trans HSi.out HB7.out.size) ?hl ?_; (case ho => exact fun k hk => ⟨Nat.le_trans HSi.out hk, fun e => by have h1_ := Kd.N_lt HO.out k e.symm; omega⟩); (case hf => exact fun k hk => Nat.le_trans HSi.out (Nat.le_trans HB7.out.size hk)); (case hl => have h_ := HN4.out.2; have h2_ := HLT.out; rw [List.length_replicate]; omega); intro v8 w8_ ho hb hg hat; rw [← List.replicate_succ'] at ho; obtain ⟨A8, a8, e8⟩ := Kd.N_slice ho; rw [List.length_replicate] at e8; subst e8; have HO8 := Aside0.mk ho; have HB8 := Aside0.mk hb; have HD8_ := Aside0.mk (blk_deeper HD.out hb HGL2.out.2); have fz := blk_frozen HD8_.out 5; have x5_ := (blk_cell HD8_.out 5).trans rfl; clear ho hb hg hat))
      go_roundg (c.f5.length - (i + 1))
      case measure => have := HIQ.out; have := HLT.out; omega
      case rel =>
        refine ⟨i + 1, A8, a8, by first | rfl | rw [HW64.out], ⟨by have := HLT.out; omega, rfl⟩, ⟨blk_put HD8_.out 5 _ rfl⟩, ⟨Kd.N_far HO8.out (fun k hk e => by have := HGL2.out.2; simp only at e; omega) _⟩, ⟨(HK.out.base HB8.out (Nat.le_refl _) (Nat.le_of_lt HGL2.out.2)).trans (K2.setR gl gl _ 5 _)⟩⟩
    · have e_ : i = c.f5.length := by have := HIQ.out; omega
      subst e_
      have hdec : decide ((c.f5.length : Int) < (c.f5.length : Int)) = false := decide_eq_false (by omega)
      have hdec2 : decide (c.f5.length < c.f5.length) = false := decide_eq_false hlt
      clear hlt HIQ
      go_wp2_with fail
      refine (ordered_calls _).mono ?_
      rintro e w9 ⟨rfl, hb9⟩
      have HB9 := Aside0.mk (below_step HBi.out hb9)
      have HD9 := Aside0.mk (blk_below HD.out hb9)
      have HO9 := Aside0.mk (Kd.N_below HO.out hb9)
      clear hb9 HD HO HK HBi HSi
      have y0 := (blk_cell HD9.out 0).trans rfl
      have y1 := (blk_cell HD9.out 1).trans rfl
      have y2 := (blk_cell HD9.out 2).trans rfl
      have y3 := (blk_cell HD9.out 3).trans rfl
      have y4 := (blk_cell HD9.out 4).trans rfl
      have y5 := (blk_cell HD9.out 5).trans rfl
      have y6 := (blk_cell HD9.out 6).trans rfl
      have y7 := (blk_cell HD9.out 7).trans rfl
      have y8 := (blk_cell HD9.out 8).trans rfl
      have y9 := (blk_cell HD9.out 9).trans rfl
      have y10 := (blk_cell HD9.out 10).trans rfl
      have y11 := (blk_cell HD9.out 11).trans rfl
      have y12 := (blk_cell HD9.out 12).trans rfl
      have y13 := (blk_cell HD9.out 13).trans rfl
      have HM9 : Aside0 (CMem w9 (AO := AO) (cO := cO) (AE := A) (cE := cc) (A1 := none) (c1 := 0) (A2 := none) (c2 := 0) (A3 := none) (c3 := 0) (A4 := none) (c4 := 0) (lessC c n)) := ⟨⟨Kd.C_take (HM.out.below HB9.out).o HNL.out.1, by show (c.f4.take n).length ≤ cO; rw [HLEN.out]; have := HNL.out; omega, (Kd.N_reads' HO9.out).2.2, by show (List.replicate c.f5.length xZ).length ≤ cc; rw [List.length_replicate]; exact (Kd.N_reads' HO9.out).2.1, Kd.C_nil _ _, Nat.le_refl _, Kd.C_nil _ _, Nat.le_refl _, Kd.C_nil _ _, Nat.le_refl _, Kd.C_nil _ _, Nat.le_refl _⟩⟩
      have hsz : CSz (lessC c n) := ⟨by show (c.f4.take n).length ≤ _; rw [HLEN.out]; have := HN4.out; have := HNL.out; omega, by show (List.replicate c.f5.length xZ).length ≤ _; rw [List.length_replicate]; have := HN4.out; omega, fun x hx => by rw [List.eq_of_mem_replicate hx]; decide, by show bigX xZ ≤ 1048576; decide, by show (0 : Nat) ≤ _; omega⟩
      have hcall := ocheck_calls w9 (lessC c n) HM9.out hsz
      rw [show (lessC c n).f4.length = n from HLEN.out, show (lessC c n).f5.length = c.f5.length from List.length_replicate] at hcall
      have HCALL := Aside0.mk hcall
      clear hsz hcall
      go_wp2_with fail
      refine HCALL.out.mono ?_
      rintro e wA ⟨er, rfl, hc, hbA⟩
      have he : er = 0 := hc.zero (good_less HG.out n)
      subst he
      have HBA := Aside0.mk (below_step HB9.out hbA)
      clear hc hbA HCALL
      have hez : ((0 : Int) == 0) = true := by decide
      go_wp2_with fail
      go_ret
      exact ⟨rfl, HBA.out⟩
end Go.Proofs.Ytecaemebamhamaa.Lv
