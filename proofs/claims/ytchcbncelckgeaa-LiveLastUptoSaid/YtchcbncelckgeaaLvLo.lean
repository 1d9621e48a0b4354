/- The law function LiveLoops walked. -/
import Derived.Test.YtchcbncelckgeaaLvEv
import Derived.Test.YtchcbncelckgeaaLvLi
set_option linter.unusedVariables false
set_option linter.unusedSimpArgs false
namespace Go.Proofs.Ytchcbncelckgeaa.Lv
open Go.RowKit Go.Proofs.YtchcbncelckgeaaW.PrintWords Go.Proofs.YtchcbncelckgeaaW.PrintLast Go.Proofs.YtchcbncelckgeaaW.PrintMore Go.Proofs.Ytchcbncelckgeaa.PZ Go.Proofs.Ytchcbncelckgeaa.Hnd Go.Lib

theorem sp_cell {w : World} {b : Nat} {o : List SP} (h : w.heap[b]? = some (.cells (cellsS o).toArray 105 (0, 0))) (v : Int) (h0 : 0 ≤ v) (h1 : v < (o.length : Int)) : w.cell? ⟨b, v.toNat * 2, none⟩ = some (.int .i64 (rd_T105 o v).f0) ∧ w.cell? ⟨b, v.toNat * 2 + 1, none⟩ = some (.int .i64 (rd_T105 o v).f1) := by
  have hlt : v.toNat < o.length := by omega
  obtain ⟨h2, h3⟩ := cellsS_get o v.toNat hlt
  have hrd : (rd_T105 o v) = o[v.toNat] := by unfold rd_T105; rw [List.getD_eq_getElem?_getD, List.getElem?_eq_getElem hlt]; rfl
  rw [hrd]
  exact ⟨by rw [blk_cell h, Nat.mul_comm]; simpa using h2, by rw [blk_cell h, Nat.mul_comm]; simpa using h3⟩
set_option maxHeartbeats 16000000 in
set_option maxRecDepth 100000 in
theorem loops_calls (w : World) {A3 : Option Addr} {c3 : Nat} {A4 : Option Addr} {c4 : Nat} {A7 : Option Addr} {c7 : Nat} {A8 : Option Addr} {c8 : Nat} {A11 : Option Addr} {c11 : Nat} {A12 : Option Addr} {c12 : Nat} (t : TT) (hm : TMem w (A3 := A3) (c3 := c3) (A4 := A4) (c4 := c4) (A7 := A7) (c7 := c7) (A8 := A8) (c8 := c8) (A11 := A11) (c11 := c11) (A12 := A12) (c12 := c12) t) (hz : TSz t) :
    Calls Try.prog 13 #[.agg #[.int .i64 t.f0, .int .i64 t.f1, .int .i64 t.f2, .slice A3 t.f3.length c3, .slice A4 t.f4.length c4, .int .i64 t.f5.f0, .int .i64 t.f5.f1, .slice A7 t.f5.f2.length c7, .slice A8 t.f5.f3.length c8, .int .i64 t.f6.f0, .int .i64 t.f6.f1, .slice A11 t.f6.f2.length c11, .slice A12 t.f6.f3.length c12]] w fun e w' => e = .returned (.bool true) ∧ Below w.heap.size w w' := by
  obtain ⟨o1, ho1⟩ : ∃ ob, ob = Obj.cells #[.int .i64 t.f0, .int .i64 t.f1, .int .i64 t.f2, .slice A3 t.f3.length c3, .slice A4 t.f4.length c4, .int .i64 t.f5.f0, .int .i64 t.f5.f1, .slice A7 t.f5.f2.length c7, .slice A8 t.f5.f3.length c8, .int .i64 t.f6.f0, .int .i64 t.f6.f1, .slice A11 t.f6.f2.length c11, .slice A12 t.f6.f3.length c12] 97 := ⟨_, rfl⟩
  have hal := below_alloc (Below.refl w.heap.size w) o1
  have HT : Aside0 ((w.alloc o1).heap[w.heap.size]? = some (.cells #[.int .i64 t.f0, .int .i64 t.f1, .int .i64 t.f2, .slice A3 t.f3.length c3, .slice A4 t.f4.length c4, .int .i64 t.f5.f0, .int .i64 t.f5.f1, .slice A7 t.f5.f2.length c7, .slice A8 t.f5.f3.length c8, .int .i64 t.f6.f0, .int .i64 t.f6.f1, .slice A11 t.f6.f2.length c11, .slice A12 t.f6.f3.length c12] 97 (0, 0))) := ⟨by rw [ho1]; exact blk_new w _⟩
  have HB := Aside0.mk hal
  have HM := Aside0.mk hm
  have HZ := Aside0.mk hz
  clear hal hm hz
  go_enter Try.func13, Try.ntmps13
  go_wp2_with fail
  rw [← ho1]
  clear ho1
  generalize w.alloc o1 = wa at HT HB ⊢
  refine (lived_calls _).mono ?_
  rintro e w2 ⟨rfl, hb2⟩
  have HB2 := Aside0.mk (below_step HB.out hb2)
  have HT2 := Aside0.mk (blk_below HT.out hb2)
  clear hb2 HB HT
  have t0 := (blk_cell HT2.out 0).trans rfl
  have t1 := (blk_cell HT2.out 1).trans rfl
  have t2 := (blk_cell HT2.out 2).trans rfl
  have t3 := (blk_cell HT2.out 3).trans rfl
  have t4 := (blk_cell HT2.out 4).trans rfl
  have t5 := (blk_cell HT2.out 5).trans rfl
  have t6 := (blk_cell HT2.out 6).trans rfl
  have t7 := (blk_cell HT2.out 7).trans rfl
  have t8 := (blk_cell HT2.out 8).trans rfl
  have t9 := (blk_cell HT2.out 9).trans rfl
  have t10 := (blk_cell HT2.out 10).trans rfl
  have t11 := (blk_cell HT2.out 11).trans rfl
  have t12 := (blk_cell HT2.out 12).trans rfl
  go_wp2_with fail
  refine (spans_calls _ t (HM.out.below HB2.out) HZ.out).mono ?_
  rintro e w3 ⟨v, er, rfl, hiff, hbad, hok, hb3⟩
  have HB3 := Aside0.mk (below_step HB2.out hb3)
  have HT3 := Aside0.mk (blk_below HT2.out hb3)
  have HLT3 : Aside0 (w2.heap.size ≤ w3.heap.size ∧ w.heap.size < w2.heap.size) := ⟨⟨hb3.size, blk_lt HT2.out⟩⟩
  clear hb3 HB2 HT2 t0 t1 t2 t3 t4 t5 t6 t7 t8 t9 t10 t11 t12
  by_cases her : er = 0
  · subst her
    have HG : Aside0 (GoodT t.f2 t.f3 t.f4 t.f5 t.f6) := ⟨hiff.1 (by first | rfl | trivial)⟩
    obtain ⟨b2, rfl, hle, hc⟩ := hok (by first | rfl | trivial)
    have HC3 := Aside0.mk hc
    have HLE2 := Aside0.mk hle
    have he0 : ((0 : Int) != 0) = false := by decide
    have HNL : Aside0 (t.f3.length ≤ 300) := ⟨HG.out.n⟩
    obtain ⟨lpn, hlpn⟩ : ∃ lpn : Nat, t.f2 = (lpn : Int) := ⟨t.f2.toNat, by have := HG.out.lo; omega⟩
    have HLPN := Aside0.mk hlpn
    have t2 := (blk_cell HT3.out 2).trans rfl
    clear hiff hbad hok hc hle hlpn
    go_wp2_with fail
    go_loopg [5] t.f3.length (fun kq v5 W => ∃ i : Nat, v5 = .int .i64 (i : Int) ∧ Aside0 (t.f2 ≤ (i : Int) ∧ i ≤ t.f3.length ∧ t.f3.length - i ≤ kq) ∧ Aside0 (Below w3.heap.size w3 W))
    case atStart => exact ⟨lpn, by first | rfl | (rw [HLPN.out]), ⟨by have := HLPN.out; omega, by have := HLPN.out; have := HG.out.hi; omega, by omega⟩, ⟨Below.refl _ _⟩⟩
    case round =>
      obtain ⟨i, rfl, HIQ, HK⟩ := hrel
      have t2 := (blk_cell (blk_below HT3.out HK.out) 2).trans rfl
      have t3 := (blk_cell (blk_below HT3.out HK.out) 3).trans rfl
      have HBW := Aside0.mk (below_step HB3.out HK.out)
      by_cases hlt : i < t.f3.length
      · have hi0 : (0 : Int) ≤ (i : Int) := by omega
        have hi1 : (i : Int) < (t.f3.length : Int) := by omega
        have hdec : decide ((i : Int) < (t.f3.length : Int)) = true := decide_eq_true hi1
        have hdec2 : decide (i < t.f3.length) = true := decide_eq_true hlt
        have HLT := Aside0.mk hlt
        have HW64 : Aside0 (wrap64 ((i : Int) + 1) = ((i + 1 : Nat) : Int)) := ⟨by have := HNL.out; unfold wrap64; omega⟩
        obtain ⟨ad, eA, y0, y1, y2, y3, y4, y5, y6, y7⟩ := at_T103 (HM.out.below HBW.out).i (i : Int) (by omega) (by omega)
        subst eA
        rw [Int.toNat_natCast] at y0 y1 y2 y3 y4 y5 y6 y7
        obtain ⟨x, hx⟩ : ∃ x, x = rd_T103 t.f3 (i : Int) := ⟨_, rfl⟩
        rw [← hx] at y0 y1 y2 y3 y4 y5 y6 y7
        have HX := Aside0.mk hx
        obtain ⟨KA, hKA⟩ := asksR_f x
        have HKA := Aside0.mk hKA
        clear hx hlt hKA
        go_wp2_with fail
        refine (backstitchref3_Asks.calls KA x.f0 x.f1 x.f2 x.f3 x.f4 x.f5 x.f6.f0 x.f6.f1 (asksL x) _ HKA.out).mono ?_
        rintro e wq ⟨vq, rfl, hRQ, hbq⟩
        obtain ⟨AQ, cq, rfl⟩ := Kd.R_slice hRQ
        have HCQ := Aside0.mk (Kd.R_reads' hRQ).2.2
        have HKq := Aside0.mk (below_step HK.out hbq)
        clear hRQ hbq y0 y1 y2 y3 y4 y5 y6 y7 t2 t3
        go_wp2_with fail
        go_loopg [38] (asksL x).length (fun kq v38 W => ∃ j : Nat, v38 = .int .i64 (j : Int) ∧ Aside0 (j ≤ (asksL x).length ∧ kq = (asksL x).length - j) ∧ Aside0 (Below wq.heap.size wq W))
        case atStart => exact ⟨0, rfl, ⟨Nat.zero_le _, by omega⟩, ⟨Below.refl _ _⟩⟩
        case round =>
          obtain ⟨j, rfl, HJQ, HJ⟩ := hrel
          by_cases hjt : j < (asksL x).length
          · have hj0 : (0 : Int) ≤ (j : Int) := by omega
            have hj1 : (j : Int) < ((asksL x).length : Int) := by omega
            obtain ⟨ad2, e2, hx2⟩ := Kd.at_int (Kd.C_below HCQ.out HJ.out) (j : Int) (by omega) (by omega)
            rw [Int.toNat_natCast, rdI hjt] at hx2
            subst e2
            have hdj : decide ((j : Int) < ((asksL x).length : Int)) = true := decide_eq_true hj1
            have hdj2 : decide (j < (asksL x).length) = true := decide_eq_true hjt
            have HJT := Aside0.mk hjt
            have HJ64 : Aside0 (wrap64 ((j : Int) + 1) = ((j + 1 : Nat) : Int)) := ⟨by have := asks_len x; unfold wrap64; omega⟩
            have hmem : (asksL x)[j] ∈ asksL (rd_T103 t.f3 (i : Int)) := by rw [← HX.out]; exact List.getElem_mem hjt
            generalize (asksL x)[j] = v at hx2 hmem
            have hvr := asksAt_mem HG.out HLT.out v (List.mem_append_left _ hmem)
            have p0 : (0 : Int) ≤ v := hvr.1
            have p1 : v < (t.f3.length : Int) := hvr.2.2
            have HMEM := Aside0.mk hmem
            have hbw : Below w3.heap.size w3 wr := below_step HKq.out HJ.out
            have HWJ := Aside0.mk hbw
            have t2 := (blk_cell (blk_below HT3.out hbw) 2).trans rfl
            have t3 := (blk_cell (blk_below HT3.out hbw) 3).trans rfl
            have hsc := sp_cell (blk_below HC3.out hbw) v p0 (by rw [spansL_len]; exact p1)
            have u1 := hsc.2
            clear hjt hmem hvr hbw hsc
            by_cases hvl : v < t.f2
            · have hdv : decide (v < t.f2) = true := decide_eq_true hvl
              have hto := loop_in HG.out HLT.out HIQ.out.1 HMEM.out hvl
              rw [hto] at u1
              have hne : ((t.f3.length : Int) != (t.f3.length : Int)) = false := bne_self_eq_false _
              clear hvl hto
              go_wp2_with fail
              refine start_ (n := 15) (S := fun w' => Below wr.heap.size wr w' ∧ w'.cell? ⟨w.heap.size, 2, none⟩ = some (.int .i64 t.f2) ∧ w'.cell? ⟨w.heap.size, 3, none⟩ = some (.slice (some ad) t.f3.length c3) ∧ w'.cell? ⟨b2, v.toNat * 2 + 1, none⟩ = some (.int .i64 (t.f3.length : Int))) (ds := []) #[false, false, false, false, false, false, false, false, false, false, false, false, false, false, false] (by kernel_rfl) rfl rfl ⟨(below_drew (Below.refl _ _)), t2, t3, u1⟩ (fun hHeld => ?_)
              refine pure_ (i := 0) (N := some 42) (v := ?_) (a' := ?_) #[true, false, false, false, false, false, false, false, false, false, false, false, false, false, false] rfl rfl (by kernel_rfl) (fun _ _ _ h => h) (Or.inl ⟨by rfl, ?_⟩) ?_ ?_
              rotate_left
              · intro w'
                go_simp
                with_reducible rfl
              rotate_left
              · simp only [Act.put, List.setIfInBounds_toArray, List.set_cons_zero, List.set_cons_succ, i64_w, i32_w]
                rfl
              refine pure_ (i := 1) (N := some 43) (v := ?_) (a' := ?_) #[true, true, false, false, false, false, false, false, false, false, false, false, false, false, false] rfl rfl (by kernel_rfl) (fun _ _ _ h => h) (Or.inl ⟨by rfl, ?_⟩) ?_ ?_
              rotate_left
              · intro w'
                go_simp
                with_reducible rfl
              rotate_left
              · simp only [Act.put, List.setIfInBounds_toArray, List.set_cons_zero, List.set_cons_succ, i64_w, i32_w]
                rfl
              refine take_ (i := 2) (N := some 44) (v := ?_) (a' := ?_) #[true, true, true, false, false, false, false, false, false, false, false, false, false, false, false] rfl rfl (by kernel_rfl) (fun _ _ _ h => h) (Or.inl ⟨by rfl, ?_⟩) hHeld ?_ ?_
              rotate_left
              · rintro w' ⟨s0, s1, s2, s3⟩
                go_simp
                with_reducible rfl
              rotate_left
              · simp only [Act.put, List.setIfInBounds_toArray, List.set_cons_zero, List.set_cons_succ, i64_w, i32_w]
                rfl
              refine pure_ (i := 3) (N := some 45) (v := ?_) (a' := ?_) #[true, true, true, true, false, false, false, false, false, false, false, false, false, false, false] rfl rfl (by kernel_rfl) (fun _ _ _ h => h) (Or.inl ⟨by rfl, ?_⟩) ?_ ?_
              rotate_left
              · intro w'
                go_simp
                with_reducible rfl
              rotate_left
              · simp only [Act.put, List.setIfInBounds_toArray, List.set_cons_zero, List.set_cons_succ, i64_w, i32_w]
                rfl
              refine pure_ (i := 4) (N := some 46) (v := ?_) (a' := ?_) #[true, true, true, true, true, false, false, false, false, false, false, false, false, false, false] rfl rfl (by kernel_rfl) (fun _ _ _ h => h) (Or.inl ⟨by rfl, ?_⟩) ?_ ?_
              rotate_left
              · intro w'
                go_simp
                with_reducible rfl
              rotate_left
              · simp only [Act.put, List.setIfInBounds_toArray, List.set_cons_zero, List.set_cons_succ, i64_w, i32_w]
                rfl
              refine pure_ (i := 5) (N := some 47) (v := ?_) (a' := ?_) #[true, true, true, true, true, true, false, false, false, false, false, false, false, false, false] rfl rfl (by kernel_rfl) (fun _ _ _ h => h) (Or.inl ⟨by rfl, ?_⟩) ?_ ?_
              rotate_left
              · intro w'
                go_simp
                with_reducible rfl
              rotate_left
              · simp only [Act.put, List.setIfInBounds_toArray, List.set_cons_zero, List.set_cons_succ, i64_w, i32_w]
                rfl
              refine pure_ (i := 6) (N := some 48) (v := ?_) (a' := ?_) #[true, true, true, true, true, true, true, false, false, false, false, false, false, false, false] rfl rfl (by kernel_rfl) (fun _ _ _ h => h) (Or.inl ⟨by rfl, ?_⟩) ?_ ?_
              rotate_left
              · intro w'
                go_simp
                with_reducible rfl
              rotate_left
              · simp only [Act.put, List.setIfInBounds_toArray, List.set_cons_zero, List.set_cons_succ, i64_w, i32_w]
                rfl
              refine pure_ (i := 7) (N := some 49) (v := ?_) (a' := ?_) #[true, true, true, true, true, true, true, true, false, false, false, false, false, false, false] rfl rfl (by kernel_rfl) (fun _ _ _ h => h) (Or.inl ⟨by rfl, ?_⟩) ?_ ?_
              rotate_left
              · intro w'
                go_simp
                with_reducible rfl
              rotate_left
              · simp only [Act.put, List.setIfInBounds_toArray, List.set_cons_zero, List.set_cons_succ, i64_w, i32_w]
                rfl
              refine pure_ (i := 8) (N := some 50) (v := ?_) (a' := ?_) #[true, true, true, true, true, true, true, true, true, false, false, false, false, false, false] rfl rfl (by kernel_rfl) (fun _ _ _ h => h) (Or.inl ⟨by rfl, ?_⟩) ?_ ?_
              rotate_left
              · intro w'
                go_simp
                with_reducible rfl
              rotate_left
              · simp only [Act.put, List.setIfInBounds_toArray, List.set_cons_zero, List.set_cons_succ, i64_w, i32_w]
                rfl
              refine pure_ (i := 10) (N := some 52) (v := ?_) (a' := ?_) #[true, true, true, true, true, true, true, true, true, false, true, false, false, false, false] rfl rfl (by kernel_rfl) (fun _ _ _ h => h) (Or.inl ⟨by rfl, ?_⟩) ?_ ?_
              rotate_left
              · intro w'
                go_simp
                with_reducible rfl
              rotate_left
              · simp only [Act.put, List.setIfInBounds_toArray, List.set_cons_zero, List.set_cons_succ, i64_w, i32_w]
                rfl
              refine take_ (i := 9) (N := some 51) (v := ?_) (a' := ?_) #[true, true, true, true, true, true, true, true, true, true, true, false, false, false, false] rfl rfl (by kernel_rfl) (fun _ _ _ h => h) (Or.inl ⟨by rfl, ?_⟩) hHeld ?_ ?_
              rotate_left
              · rintro w' ⟨s0, s1, s2, s3⟩
                go_simp
                with_reducible rfl
              rotate_left
              · simp only [Act.put, List.setIfInBounds_toArray, List.set_cons_zero, List.set_cons_succ, i64_w, i32_w]
                rfl
              refine take_ (i := 11) (N := some 53) (v := ?_) (a' := ?_) #[true, true, true, true, true, true, true, true, true, true, true, true, false, false, false] rfl rfl (by kernel_rfl) (fun _ _ _ h => h) (Or.inl ⟨by rfl, ?_⟩) hHeld ?_ ?_
              rotate_left
              · rintro w' ⟨s0, s1, s2, s3⟩
                go_simp
                with_reducible rfl
              rotate_left
              · simp only [Act.put, List.setIfInBounds_toArray, List.set_cons_zero, List.set_cons_succ, i64_w, i32_w]
                rfl
              refine pure_ (i := 12) (N := some 54) (v := ?_) (a' := ?_) #[true, true, true, true, true, true, true, true, true, true, true, true, true, false, false] rfl rfl (by kernel_rfl) (fun _ _ _ h => h) (Or.inl ⟨by rfl, ?_⟩) ?_ ?_
              rotate_left
              · intro w'
                go_simp
                with_reducible rfl
              rotate_left
              · simp only [Act.put, List.setIfInBounds_toArray, List.set_cons_zero, List.set_cons_succ, i64_w, i32_w]
                rfl
              refine pure_ (i := 13) (N := some 55) (v := ?_) (a' := ?_) #[true, true, true, true, true, true, true, true, true, true, true, true, true, true, false] rfl rfl (by kernel_rfl) (fun _ _ _ h => h) (Or.inl ⟨by rfl, ?_⟩) ?_ ?_
              rotate_left
              · intro w'
                go_simp
                with_reducible rfl
              rotate_left
              · simp only [Act.put, List.setIfInBounds_toArray, List.set_cons_zero, List.set_cons_succ, i64_w, i32_w]
                rfl
              refine pure_ (i := 14) (N := some 56) (v := ?_) (a' := ?_) #[true, true, true, true, true, true, true, true, true, true, true, true, true, true, true] rfl rfl (by kernel_rfl) (fun _ _ _ h => h) (Or.inl ⟨by rfl, ?_⟩) ?_ ?_
              rotate_left
              · intro w'
                go_simp
                with_reducible rfl
              rotate_left
              · simp only [Act.put, List.setIfInBounds_toArray, List.set_cons_zero, List.set_cons_succ, i64_w, i32_w]
                rfl
              refine done_ (by kernel_rfl) ?_
              have HJ2 := Aside0.mk (below_step HJ.out hHeld.1)
              clear hHeld t2 t3 u1 hx2
              go_wp2_with fail
              go_roundg ((asksL x).length - (j + 1))
              case measure => have := HJQ.out; have := HJT.out; omega
              case rel => exact ⟨j + 1, by first | rfl | rw [HJ64.out], ⟨by have := HJT.out; omega, rfl⟩, HJ2⟩
            · have hdv : decide (v < t.f2) = false := decide_eq_false hvl
              clear hvl
              go_wp2_with fail
              refine start_ (n := 15) (S := fun w' => Below wr.heap.size wr w' ∧ w'.cell? ⟨w.heap.size, 2, none⟩ = some (.int .i64 t.f2) ∧ w'.cell? ⟨w.heap.size, 3, none⟩ = some (.slice (some ad) t.f3.length c3)) (ds := []) #[false, false, false, false, false, false, false, false, false, false, false, false, false, false, false] (by kernel_rfl) rfl rfl ⟨(below_drew (Below.refl _ _)), t2, t3⟩ (fun hHeld => ?_)
              refine pure_ (i := 0) (N := some 42) (v := ?_) (a' := ?_) #[true, false, false, false, false, false, false, false, false, false, false, false, false, false, false] rfl rfl (by kernel_rfl) (fun _ _ _ h => h) (Or.inl ⟨by rfl, ?_⟩) ?_ ?_
              rotate_left
              · intro w'
                go_simp
                with_reducible rfl
              rotate_left
              · simp only [Act.put, List.setIfInBounds_toArray, List.set_cons_zero, List.set_cons_succ, i64_w, i32_w]
                rfl
              refine pure_ (i := 1) (N := some 43) (v := ?_) (a' := ?_) #[true, true, false, false, false, false, false, false, false, false, false, false, false, false, false] rfl rfl (by kernel_rfl) (fun _ _ _ h => h) (Or.inl ⟨by rfl, ?_⟩) ?_ ?_
              rotate_left
              · intro w'
                go_simp
                with_reducible rfl
              rotate_left
              · simp only [Act.put, List.setIfInBounds_toArray, List.set_cons_zero, List.set_cons_succ, i64_w, i32_w]
                rfl
              refine take_ (i := 2) (N := some 44) (v := ?_) (a' := ?_) #[true, true, true, false, false, false, false, false, false, false, false, false, false, false, false] rfl rfl (by kernel_rfl) (fun _ _ _ h => h) (Or.inl ⟨by rfl, ?_⟩) hHeld ?_ ?_
              rotate_left
              · rintro w' ⟨s0, s1, s2⟩
                go_simp
                with_reducible rfl
              rotate_left
              · simp only [Act.put, List.setIfInBounds_toArray, List.set_cons_zero, List.set_cons_succ, i64_w, i32_w]
                rfl
              refine pure_ (i := 3) (N := some 45) (v := ?_) (a' := ?_) #[true, true, true, true, false, false, false, false, false, false, false, false, false, false, false] rfl rfl (by kernel_rfl) (fun _ _ _ h => h) (Or.inl ⟨by rfl, ?_⟩) ?_ ?_
              rotate_left
              · intro w'
                go_simp
                with_reducible rfl
              rotate_left
              · simp only [Act.put, List.setIfInBounds_toArray, List.set_cons_zero, List.set_cons_succ, i64_w, i32_w]
                rfl
              refine pure_ (i := 4) (N := some 46) (v := ?_) (a' := ?_) #[true, true, true, true, true, false, false, false, false, false, false, false, false, false, false] rfl rfl (by kernel_rfl) (fun _ _ _ h => h) (Or.inl ⟨by rfl, ?_⟩) ?_ ?_
              rotate_left
              · intro w'
                go_simp
                with_reducible rfl
              rotate_left
              · simp only [Act.put, List.setIfInBounds_toArray, List.set_cons_zero, List.set_cons_succ, i64_w, i32_w]
                rfl
              refine pure_ (i := 5) (N := some 47) (v := undef) (a' := ?_) #[true, true, true, true, true, true, false, false, false, false, false, false, false, false, false] rfl rfl (by kernel_rfl) (fun _ _ _ h => h) (Or.inr ⟨by rfl, rfl⟩) ?_ ?_
              rotate_left
              · simp only [Act.put, List.setIfInBounds_toArray, List.set_cons_zero, List.set_cons_succ, i64_w, i32_w]
                rfl
              refine pure_ (i := 6) (N := some 48) (v := undef) (a' := ?_) #[true, true, true, true, true, true, true, false, false, false, false, false, false, false, false] rfl rfl (by kernel_rfl) (fun _ _ _ h => h) (Or.inr ⟨by rfl, rfl⟩) ?_ ?_
              rotate_left
              · simp only [Act.put, List.setIfInBounds_toArray, List.set_cons_zero, List.set_cons_succ, i64_w, i32_w]
                rfl
              refine pure_ (i := 7) (N := some 49) (v := undef) (a' := ?_) #[true, true, true, true, true, true, true, true, false, false, false, false, false, false, false] rfl rfl (by kernel_rfl) (fun _ _ _ h => h) (Or.inr ⟨by rfl, rfl⟩) ?_ ?_
              rotate_left
              · simp only [Act.put, List.setIfInBounds_toArray, List.set_cons_zero, List.set_cons_succ, i64_w, i32_w]
                rfl
              refine pure_ (i := 8) (N := some 50) (v := undef) (a' := ?_) #[true, true, true, true, true, true, true, true, true, false, false, false, false, false, false] rfl rfl (by kernel_rfl) (fun _ _ _ h => h) (Or.inr ⟨by rfl, rfl⟩) ?_ ?_
              rotate_left
              · simp only [Act.put, List.setIfInBounds_toArray, List.set_cons_zero, List.set_cons_succ, i64_w, i32_w]
                rfl
              refine pure_ (i := 9) (N := some 51) (v := undef) (a' := ?_) #[true, true, true, true, true, true, true, true, true, true, false, false, false, false, false] rfl rfl (by kernel_rfl) (fun _ _ _ h => h) (Or.inr ⟨by rfl, rfl⟩) ?_ ?_
              rotate_left
              · simp only [Act.put, List.setIfInBounds_toArray, List.set_cons_zero, List.set_cons_succ, i64_w, i32_w]
                rfl
              refine pure_ (i := 10) (N := some 52) (v := undef) (a' := ?_) #[true, true, true, true, true, true, true, true, true, true, true, false, false, false, false] rfl rfl (by kernel_rfl) (fun _ _ _ h => h) (Or.inr ⟨by rfl, rfl⟩) ?_ ?_
              rotate_left
              · simp only [Act.put, List.setIfInBounds_toArray, List.set_cons_zero, List.set_cons_succ, i64_w, i32_w]
                rfl
              refine pure_ (i := 11) (N := some 53) (v := undef) (a' := ?_) #[true, true, true, true, true, true, true, true, true, true, true, true, false, false, false] rfl rfl (by kernel_rfl) (fun _ _ _ h => h) (Or.inr ⟨by rfl, rfl⟩) ?_ ?_
              rotate_left
              · simp only [Act.put, List.setIfInBounds_toArray, List.set_cons_zero, List.set_cons_succ, i64_w, i32_w]
                rfl
              refine pure_ (i := 12) (N := some 54) (v := undef) (a' := ?_) #[true, true, true, true, true, true, true, true, true, true, true, true, true, false, false] rfl rfl (by kernel_rfl) (fun _ _ _ h => h) (Or.inr ⟨by rfl, rfl⟩) ?_ ?_
              rotate_left
              · simp only [Act.put, List.setIfInBounds_toArray, List.set_cons_zero, List.set_cons_succ, i64_w, i32_w]
                rfl
              refine pure_ (i := 13) (N := some 55) (v := undef) (a' := ?_) #[true, true, true, true, true, true, true, true, true, true, true, true, true, true, false] rfl rfl (by kernel_rfl) (fun _ _ _ h => h) (Or.inr ⟨by rfl, rfl⟩) ?_ ?_
              rotate_left
              · simp only [Act.put, List.setIfInBounds_toArray, List.set_cons_zero, List.set_cons_succ, i64_w, i32_w]
                rfl
              refine pure_ (i := 14) (N := some 56) (v := ?_) (a' := ?_) #[true, true, true, true, true, true, true, true, true, true, true, true, true, true, true] rfl rfl (by kernel_rfl) (fun _ _ _ h => h) (Or.inl ⟨by rfl, ?_⟩) ?_ ?_
              rotate_left
              · intro w'
                go_simp
                with_reducible rfl
              rotate_left
              · simp only [Act.put, List.setIfInBounds_toArray, List.set_cons_zero, List.set_cons_succ, i64_w, i32_w]
                rfl
              refine done_ (by kernel_rfl) ?_
              have HJ2 := Aside0.mk (below_step HJ.out hHeld.1)
              clear hHeld t2 t3 u1 hx2
              go_wp2_with fail
              go_roundg ((asksL x).length - (j + 1))
              case measure => have := HJQ.out; have := HJT.out; omega
              case rel => exact ⟨j + 1, by first | rfl | rw [HJ64.out], ⟨by have := HJT.out; omega, rfl⟩, HJ2⟩
          · have e_ : j = (asksL x).length := by have := HJQ.out; omega
            subst e_
            have hdj : decide (((asksL x).length : Int) < ((asksL x).length : Int)) = false := decide_eq_false (by omega)
            have hdj2 : decide ((asksL x).length < (asksL x).length) = false := decide_eq_false hjt
            have HWJ := Aside0.mk (below_step HKq.out HJ.out)
            clear hjt
            go_wp2_with fail
            go_roundg (t.f3.length - (i + 1))
            case measure => have := HIQ.out; have := HLT.out; omega
            case rel => exact ⟨i + 1, by first | rfl | rw [HW64.out], ⟨by have := HIQ.out; omega, by have := HLT.out; omega, Nat.le_refl _⟩, HWJ⟩
      · have e_ : i = t.f3.length := by have := HIQ.out; omega
        subst e_
        have hdec : decide ((t.f3.length : Int) < (t.f3.length : Int)) = false := decide_eq_false (by omega)
        have hdec2 : decide (t.f3.length < t.f3.length) = false := decide_eq_false hlt
        have HTa := Aside0.mk (blk_below HT3.out HK.out)
        have HCa := Aside0.mk (blk_below HC3.out HK.out)
        clear hlt HIQ HK HT3 HC3
        generalize wr = wb at HTa HCa HBW t2 t3 ⊢
        have t0 := (blk_cell HTa.out 0).trans rfl
        have t1 := (blk_cell HTa.out 1).trans rfl
        have t4 := (blk_cell HTa.out 4).trans rfl
        have t5 := (blk_cell HTa.out 5).trans rfl
        have t6 := (blk_cell HTa.out 6).trans rfl
        have t7 := (blk_cell HTa.out 7).trans rfl
        have t8 := (blk_cell HTa.out 8).trans rfl
        have t9 := (blk_cell HTa.out 9).trans rfl
        have t10 := (blk_cell HTa.out 10).trans rfl
        have t11 := (blk_cell HTa.out 11).trans rfl
        have t12 := (blk_cell HTa.out 12).trans rfl
        obtain ⟨ou, hou⟩ : ∃ ob, ob = Obj.cells #[.int .i64 t.f0, .int .i64 t.f1, .int .i64 0, .slice A3 t.f3.length c3, .slice A4 t.f4.length c4, .int .i64 t.f5.f0, .int .i64 t.f5.f1, .slice A7 t.f5.f2.length c7, .slice A8 t.f5.f3.length c8, .int .i64 t.f6.f0, .int .i64 t.f6.f1, .slice A11 t.f6.f2.length c11, .slice A12 t.f6.f3.length c12] 97 := ⟨_, rfl⟩
        have hal := below_alloc (Below.refl wb.heap.size wb) ou
        have HBu := Aside0.mk (below_step HBW.out hal)
        have HCu := Aside0.mk (blk_below HCa.out hal)
        have HUu : Aside0 ((wb.alloc ou).heap[wb.heap.size]? = some (.cells #[.int .i64 t.f0, .int .i64 t.f1, .int .i64 0, .slice A3 t.f3.length c3, .slice A4 t.f4.length c4, .int .i64 t.f5.f0, .int .i64 t.f5.f1, .slice A7 t.f5.f2.length c7, .slice A8 t.f5.f3.length c8, .int .i64 t.f6.f0, .int .i64 t.f6.f1, .slice A11 t.f6.f2.length c11, .slice A12 t.f6.f3.length c12] 97 (0, 0))) := ⟨by rw [hou]; exact blk_new wb _⟩
        clear hal
        go_upto_region 17 with fail
        rw [← hou]
        clear hou t0 t1 t2 t3 t4 t5 t6 t7 t8 t9 t10 t11 t12 HTa HCa HBW
        generalize wb.alloc ou = wu at HBu HCu HUu ⊢
        generalize wb.heap.size = bu at HUu ⊢
        have t0 := (blk_cell HUu.out 0).trans rfl
        have t1 := (blk_cell HUu.out 1).trans rfl
        have t2 := (blk_cell HUu.out 2).trans rfl
        have t3 := (blk_cell HUu.out 3).trans rfl
        have t4 := (blk_cell HUu.out 4).trans rfl
        have t5 := (blk_cell HUu.out 5).trans rfl
        have t6 := (blk_cell HUu.out 6).trans rfl
        have t7 := (blk_cell HUu.out 7).trans rfl
        have t8 := (blk_cell HUu.out 8).trans rfl
        have t9 := (blk_cell HUu.out 9).trans rfl
        have t10 := (blk_cell HUu.out 10).trans rfl
        have t11 := (blk_cell HUu.out 11).trans rfl
        have t12 := (blk_cell HUu.out 12).trans rfl
        have HMu : Aside0 (TMem wu (A3 := A3) (c3 := c3) (A4 := A4) (c4 := c4) (A7 := A7) (c7 := c7) (A8 := A8) (c8 := c8) (A11 := A11) (c11 := c11) (A12 := A12) (c12 := c12) ⟨t.f0, t.f1, 0, t.f3, t.f4, t.f5, t.f6⟩) := ⟨⟨(HM.out.below HBu.out).i, HM.out.ic, (HM.out.below HBu.out).e, HM.out.ec, (HM.out.below HBu.out).ts, HM.out.tsc, (HM.out.below HBu.out).tm, HM.out.tmc, (HM.out.below HBu.out).bs, HM.out.bsc, (HM.out.below HBu.out).bm, HM.out.bmc⟩⟩
        go_wp2_with fail
        refine (spans_calls wu ⟨t.f0, t.f1, 0, t.f3, t.f4, t.f5, t.f6⟩ HMu.out ⟨HZ.out.i, HZ.out.e, HZ.out.x, HZ.out.tu, HZ.out.ba⟩).mono ?_
        rintro e wn ⟨v2, er2, rfl, hiff2, _, hok2, hbn⟩
        have he2 : er2 = 0 := hiff2.2 (good0 (t := t) HG.out)
        subst he2
        obtain ⟨b3, rfl, hle3, hc3⟩ := hok2 rfl
        have HBn := Aside0.mk (below_step HBu.out hbn)
        have HC1 := Aside0.mk (blk_below HCu.out hbn)
        have HC2 := Aside0.mk hc3
        clear hiff2 hok2 hbn hc3 hle3 HBu HCu HUu t0 t1 t2 t3 t4 t5 t6 t7 t8 t9 t10 t11 t12
        have hne : ((t.f3.length : Int) != (t.f3.length : Int)) = false := bne_self_eq_false _
        go_wp2_with fail
        clear hne
        go_loopg [76] t.f3.length (fun kq v76 W => ∃ i : Nat, v76 = .int .i64 (i : Int) ∧ Aside0 (i ≤ t.f3.length ∧ kq = t.f3.length - i) ∧ Aside0 (Below wn.heap.size wn W))
        case atStart => exact ⟨0, rfl, ⟨Nat.zero_le _, by omega⟩, ⟨Below.refl _ _⟩⟩
        case round =>
          obtain ⟨i, rfl, HIQ, HK⟩ := hrel
          by_cases hlt : i < t.f3.length
          · have hi0 : (0 : Int) ≤ (i : Int) := by omega
            have hi1 : (i : Int) < (t.f3.length : Int) := by omega
            have hdec : decide ((i : Int) < (t.f3.length : Int)) = true := decide_eq_true hi1
            have hdec2 : decide (i < t.f3.length) = true := decide_eq_true hlt
            have HLT := Aside0.mk hlt
            have HW64 : Aside0 (wrap64 ((i : Int) + 1) = ((i + 1 : Nat) : Int)) := ⟨by have := HNL.out; unfold wrap64; omega⟩
            have u1 := (sp_cell (blk_below HC1.out HK.out) (i : Int) hi0 (by rw [spansL_len]; exact hi1)).2
            have u2 := (sp_cell (blk_below HC2.out HK.out) (i : Int) hi0 (by rw [spansL_len]; exact hi1)).2
            rw [Int.toNat_natCast] at u1 u2
            have hle := loop_less HG.out (good0 HG.out) hlt
            have hgt : decide ((rd_T105 (spansL ⟨t.f0, t.f1, 0, t.f3, t.f4, t.f5, t.f6⟩) (i : Int)).f1 > (rd_T105 (spansL t) (i : Int)).f1) = false := decide_eq_false (by omega)
            have hgt2 : decide ((rd_T105 (spansL t) (i : Int)).f1 < (rd_T105 (spansL ⟨t.f0, t.f1, 0, t.f3, t.f4, t.f5, t.f6⟩) (i : Int)).f1) = false := decide_eq_false (by omega)
            generalize (rd_T105 (spansL ⟨t.f0, t.f1, 0, t.f3, t.f4, t.f5, t.f6⟩) (i : Int)).f1 = q1 at u2 hgt hgt2
            generalize (rd_T105 (spansL t) (i : Int)).f1 = q2 at u1 hgt hgt2
            clear hle hlt
            go_wp2_with fail
            refine start_ (n := 11) (S := fun w' => Below wr.heap.size wr w' ∧ w'.cell? ⟨b2, i * 2 + 1, none⟩ = some (.int .i64 q2) ∧ w'.cell? ⟨b3, i * 2 + 1, none⟩ = some (.int .i64 q1)) (ds := []) #[false, false, false, false, false, false, false, false, false, false, false] (by kernel_rfl) rfl rfl ⟨(below_drew (Below.refl _ _)), u1, u2⟩ (fun hHeld => ?_)
            refine pure_ (i := 0) (N := some 79) (v := ?_) (a' := ?_) #[true, false, false, false, false, false, false, false, false, false, false] rfl rfl (by kernel_rfl) (fun _ _ _ h => h) (Or.inl ⟨by rfl, ?_⟩) ?_ ?_
            rotate_left
            · intro w'
              go_simp
              with_reducible rfl
            rotate_left
            · simp only [Act.put, List.setIfInBounds_toArray, List.set_cons_zero, List.set_cons_succ, i64_w, i32_w]
              rfl
            refine pure_ (i := 1) (N := some 80) (v := ?_) (a' := ?_) #[true, true, false, false, false, false, false, false, false, false, false] rfl rfl (by kernel_rfl) (fun _ _ _ h => h) (Or.inl ⟨by rfl, ?_⟩) ?_ ?_
            rotate_left
            · intro w'
              go_simp
              with_reducible rfl
            rotate_left
            · simp only [Act.put, List.setIfInBounds_toArray, List.set_cons_zero, List.set_cons_succ, i64_w, i32_w]
              rfl
            refine pure_ (i := 2) (N := some 81) (v := ?_) (a' := ?_) #[true, true, true, false, false, false, false, false, false, false, false] rfl rfl (by kernel_rfl) (fun _ _ _ h => h) (Or.inl ⟨by rfl, ?_⟩) ?_ ?_
            rotate_left
            · intro w'
              go_simp
              with_reducible rfl
            rotate_left
            · simp only [Act.put, List.setIfInBounds_toArray, List.set_cons_zero, List.set_cons_succ, i64_w, i32_w]
              rfl
            refine pure_ (i := 3) (N := some 82) (v := ?_) (a' := ?_) #[true, true, true, true, false, false, false, false, false, false, false] rfl rfl (by kernel_rfl) (fun _ _ _ h => h) (Or.inl ⟨by rfl, ?_⟩) ?_ ?_
            rotate_left
            · intro w'
              go_simp
              with_reducible rfl
            rotate_left
            · simp only [Act.put, List.setIfInBounds_toArray, List.set_cons_zero, List.set_cons_succ, i64_w, i32_w]
              rfl
            refine pure_ (i := 5) (N := some 84) (v := ?_) (a' := ?_) #[true, true, true, true, false, true, false, false, false, false, false] rfl rfl (by kernel_rfl) (fun _ _ _ h => h) (Or.inl ⟨by rfl, ?_⟩) ?_ ?_
            rotate_left
            · intro w'
              go_simp
              with_reducible rfl
            rotate_left
            · simp only [Act.put, List.setIfInBounds_toArray, List.set_cons_zero, List.set_cons_succ, i64_w, i32_w]
              rfl
            refine pure_ (i := 6) (N := some 85) (v := ?_) (a' := ?_) #[true, true, true, true, false, true, true, false, false, false, false] rfl rfl (by kernel_rfl) (fun _ _ _ h => h) (Or.inl ⟨by rfl, ?_⟩) ?_ ?_
            rotate_left
            · intro w'
              go_simp
              with_reducible rfl
            rotate_left
            · simp only [Act.put, List.setIfInBounds_toArray, List.set_cons_zero, List.set_cons_succ, i64_w, i32_w]
              rfl
            refine pure_ (i := 7) (N := some 86) (v := ?_) (a' := ?_) #[true, true, true, true, false, true, true, true, false, false, false] rfl rfl (by kernel_rfl) (fun _ _ _ h => h) (Or.inl ⟨by rfl, ?_⟩) ?_ ?_
            rotate_left
            · intro w'
              go_simp
              with_reducible rfl
            rotate_left
            · simp only [Act.put, List.setIfInBounds_toArray, List.set_cons_zero, List.set_cons_succ, i64_w, i32_w]
              rfl
            refine pure_ (i := 8) (N := some 87) (v := ?_) (a' := ?_) #[true, true, true, true, false, true, true, true, true, false, false] rfl rfl (by kernel_rfl) (fun _ _ _ h => h) (Or.inl ⟨by rfl, ?_⟩) ?_ ?_
            rotate_left
            · intro w'
              go_simp
              with_reducible rfl
            rotate_left
            · simp only [Act.put, List.setIfInBounds_toArray, List.set_cons_zero, List.set_cons_succ, i64_w, i32_w]
              rfl
            refine take_ (i := 4) (N := some 83) (v := ?_) (a' := ?_) #[true, true, true, true, true, true, true, true, true, false, false] rfl rfl (by kernel_rfl) (fun _ _ _ h => h) (Or.inl ⟨by rfl, ?_⟩) hHeld ?_ ?_
            rotate_left
            · rintro w' ⟨s0, s1, s2⟩
              go_simp
              with_reducible rfl
            rotate_left
            · simp only [Act.put, List.setIfInBounds_toArray, List.set_cons_zero, List.set_cons_succ, i64_w, i32_w]
              rfl
            refine take_ (i := 9) (N := some 88) (v := ?_) (a' := ?_) #[true, true, true, true, true, true, true, true, true, true, false] rfl rfl (by kernel_rfl) (fun _ _ _ h => h) (Or.inl ⟨by rfl, ?_⟩) hHeld ?_ ?_
            rotate_left
            · rintro w' ⟨s0, s1, s2⟩
              go_simp
              with_reducible rfl
            rotate_left
            · simp only [Act.put, List.setIfInBounds_toArray, List.set_cons_zero, List.set_cons_succ, i64_w, i32_w]
              rfl
            refine pure_ (i := 10) (N := some 89) (v := ?_) (a' := ?_) #[true, true, true, true, true, true, true, true, true, true, true] rfl rfl (by kernel_rfl) (fun _ _ _ h => h) (Or.inl ⟨by rfl, ?_⟩) ?_ ?_
            rotate_left
            · intro w'
              go_simp
              with_reducible rfl
            rotate_left
            · simp only [Act.put, List.setIfInBounds_toArray, List.set_cons_zero, List.set_cons_succ, i64_w, i32_w]
              rfl
            refine done_ (by kernel_rfl) ?_
            have HK2 := Aside0.mk (below_step HK.out hHeld.1)
            clear hHeld u1 u2
            go_wp2_with fail
            go_roundg (t.f3.length - (i + 1))
            case measure => have := HIQ.out; have := HLT.out; omega
            case rel => exact ⟨i + 1, by first | rfl | rw [HW64.out], ⟨by have := HLT.out; omega, rfl⟩, HK2⟩
          · have e_ : i = t.f3.length := by have := HIQ.out; omega
            subst e_
            have hdec : decide ((t.f3.length : Int) < (t.f3.length : Int)) = false := decide_eq_false (by omega)
            have hdec2 : decide (t.f3.length < t.f3.length) = false := decide_eq_false hlt
            have HBf := Aside0.mk (below_step HBn.out HK.out)
            clear hlt
            go_wp2_with fail
            refine (lived_calls _).mono ?_
            rintro e wl ⟨rfl, hbl⟩
            have HBl := Aside0.mk (below_step HBf.out hbl)
            clear hbl
            go_wp2_with fail
            go_ret
            exact ⟨rfl, HBl.out⟩
  · have he1 : (er != 0) = true := bne_iff_ne.mpr her
    clear her hiff hbad hok
    go_wp2_with fail
    refine (lived_calls _).mono ?_
    rintro e w4 ⟨rfl, hb4⟩
    have HB4 := Aside0.mk (below_step HB3.out hb4)
    clear hb4
    go_wp2_with fail
    go_ret
    exact ⟨rfl, HB4.out⟩
end Go.Proofs.Ytchcbncelckgeaa.Lv
