/- The law function OrderWritten walked. -/
import Derived.Test.YtecaemebamhamaaOrOr
set_option linter.unusedVariables false
set_option linter.unusedSimpArgs false
namespace Go.Proofs.Ytecaemebamhamaa.Lv
open Go.RowKit Go.Proofs.YtecaemebamhamaaW.PrintWords Go.Proofs.YtecaemebamhamaaW.PrintLast Go.Proofs.YtecaemebamhamaaW.PrintMore Go.Proofs.Ytecaemebamhamaa.PO Go.Proofs.Ytecaemebamhamaa.Hnd Go.Lib

theorem done_cell {w : World} {b : Nat} {t : Nat} {regs : List Bool} (h : w.heap[b]? = some (.cells (regs.map Value.bool).toArray t (0, 0))) (h8 : regs.length = 8) (i : Nat) (hi : i < 8) : w.cell? ⟨b, i, none⟩ = some (.bool (regs.getD i false)) := by
  rw [blk_cell h, List.getElem?_toArray, List.getElem?_map, List.getElem?_eq_getElem (by omega), List.getD_eq_getElem?_getD, List.getElem?_eq_getElem (by omega)]
  rfl
set_option maxHeartbeats 32000000 in
set_option maxRecDepth 100000 in
theorem written_calls (w : World) {AO : Option Addr} {cO : Nat} {AE : Option Addr} {cE : Nat} {A1 : Option Addr} {c1 : Nat} {A2 : Option Addr} {c2 : Nat} {A3 : Option Addr} {c3 : Nat} {A4 : Option Addr} {c4 : Nat} (c : RC) (hm : CMem w (AO := AO) (cO := cO) (AE := AE) (cE := cE) (A1 := A1) (c1 := c1) (A2 := A2) (c2 := c2) (A3 := A3) (c3 := c3) (A4 := A4) (c4 := c4) c) (hz : CSz c) :
    Calls Try.prog 4 #[.agg #[.int .i64 c.f0, .int .i64 c.f1, .int .i64 c.f2, .int .i64 c.f3, .slice AO c.f4.length cO, .slice AE c.f5.length cE, .int .i64 c.f6.f0, .int .i64 c.f6.f1, .slice A1 c.f6.f2.length c1, .slice A2 c.f6.f3.length c2, .int .i64 c.f7.f0, .int .i64 c.f7.f1, .slice A3 c.f7.f2.length c3, .slice A4 c.f7.f3.length c4]] w fun e w' => e = .returned (.bool true) ∧ Below w.heap.size w w' := by
  obtain ⟨o1, ho1⟩ : ∃ ob, ob = Obj.cells #[.int .i64 c.f0, .int .i64 c.f1, .int .i64 c.f2, .int .i64 c.f3, .slice AO c.f4.length cO, .slice AE c.f5.length cE, .int .i64 c.f6.f0, .int .i64 c.f6.f1, .slice A1 c.f6.f2.length c1, .slice A2 c.f6.f3.length c2, .int .i64 c.f7.f0, .int .i64 c.f7.f1, .slice A3 c.f7.f2.length c3, .slice A4 c.f7.f3.length c4] 29 := ⟨_, rfl⟩
  have hal := below_alloc (Below.refl w.heap.size w) o1
  have HC : Aside0 ((w.alloc o1).heap[w.heap.size]? = some (.cells #[.int .i64 c.f0, .int .i64 c.f1, .int .i64 c.f2, .int .i64 c.f3, .slice AO c.f4.length cO, .slice AE c.f5.length cE, .int .i64 c.f6.f0, .int .i64 c.f6.f1, .slice A1 c.f6.f2.length c1, .slice A2 c.f6.f3.length c2, .int .i64 c.f7.f0, .int .i64 c.f7.f1, .slice A3 c.f7.f2.length c3, .slice A4 c.f7.f3.length c4] 29 (0, 0))) := ⟨by rw [ho1]; exact blk_new w _⟩
  have HB := Aside0.mk hal
  have HM := Aside0.mk hm
  have HZ := Aside0.mk hz
  clear hal hm hz
  go_enter Try.func4, Try.ntmps4
  go_wp2_with fail
  rw [← ho1]
  clear ho1
  generalize w.alloc o1 = wa at HC HB ⊢
  refine (ordered_calls _).mono ?_
  rintro e w2 ⟨rfl, hb2⟩
  have HB2 := Aside0.mk (below_step HB.out hb2)
  have HC2 := Aside0.mk (blk_below HC.out hb2)
  clear hb2 HB HC
  have y0 := (blk_cell HC2.out 0).trans rfl
  have y1 := (blk_cell HC2.out 1).trans rfl
  have y2 := (blk_cell HC2.out 2).trans rfl
  have y3 := (blk_cell HC2.out 3).trans rfl
  have y4 := (blk_cell HC2.out 4).trans rfl
  have y5 := (blk_cell HC2.out 5).trans rfl
  have y6 := (blk_cell HC2.out 6).trans rfl
  have y7 := (blk_cell HC2.out 7).trans rfl
  have y8 := (blk_cell HC2.out 8).trans rfl
  have y9 := (blk_cell HC2.out 9).trans rfl
  have y10 := (blk_cell HC2.out 10).trans rfl
  have y11 := (blk_cell HC2.out 11).trans rfl
  have y12 := (blk_cell HC2.out 12).trans rfl
  have y13 := (blk_cell HC2.out 13).trans rfl
  go_wp2_with fail
  refine (ocheck_calls w2 c (HM.out.below HB2.out) HZ.out).mono ?_
  rintro e w3 ⟨er, rfl, hchk, hb3⟩
  have HB3 := Aside0.mk (below_step HB2.out hb3)
  have HC3 := Aside0.mk (blk_below HC2.out hb3)
  clear hb3 HB2 HC2 y0 y1 y2 y3 y4 y5 y6 y7 y8 y9 y10 y11 y12 y13
  by_cases her : er ≠ 0
  · have hed : (er != 0) = true := bne_iff_ne.mpr her
    clear hchk her
    go_wp2_with fail
    refine (ordered_calls _).mono ?_
    rintro e w4 ⟨rfl, hb4⟩
    have HB4 := Aside0.mk (below_step HB3.out hb4)
    clear hb4
    go_wp2_with fail
    go_ret
    exact ⟨rfl, HB4.out⟩
  have her : er = 0 := Decidable.not_not.1 her
  subst her
  have HG := Aside0.mk hchk.good
  clear hchk
  have he0 : ((0 : Int) != 0) = false := by decide
  have hal5 := below_alloc (Below.refl w3.heap.size w3) (Obj.cells #[.bool false, .bool false, .bool false, .bool false, .bool false, .bool false, .bool false, .bool false] 39)
  obtain ⟨o5, ho5⟩ : ∃ ob, ob = Obj.cells #[.bool false, .bool false, .bool false, .bool false, .bool false, .bool false, .bool false, .bool false] 39 := ⟨_, rfl⟩
  rw [← ho5] at hal5
  have HB4 := Aside0.mk (below_step HB3.out hal5)
  have HC4 := Aside0.mk (blk_below HC3.out hal5)
  have HD4 : Aside0 ((w3.alloc o5).heap[w3.heap.size]? = some (.cells ((regsAt c 0).map Value.bool).toArray 39 (0, 0))) := ⟨by rw [blk_new w3 o5, ho5]; rfl⟩
  have HNE : Aside0 (w.heap.size < w3.heap.size) := ⟨blk_lt HC3.out⟩
  have y4 := (blk_cell HC4.out 4).trans rfl
  rw [ho5] at y4
  have HN4 : Aside0 (c.f4.length ≤ 1500) := ⟨by have := (large_parts HG.out.la).1; omega⟩
  clear hal5 HB3 HC3
  go_wp2_with fail
  rw [← ho5]
  clear ho5 y4
  generalize w3.alloc o5 = w4 at HB4 HC4 HD4 ⊢
  generalize w3.heap.size = bD at HD4 HNE ⊢
  go_loopg [18] c.f4.length (fun kq v18 W => ∃ i : Nat, v18 = .int .i64 (i : Int) ∧ Aside0 (i ≤ c.f4.length ∧ kq = c.f4.length - i) ∧ Aside0 (W.heap[bD]? = some (.cells ((regsAt c i).map Value.bool).toArray 39 (0, 0))) ∧ Aside0 (K2 bD bD w4 W))
  case atStart => exact ⟨0, rfl, ⟨Nat.zero_le _, by omega⟩, HD4, ⟨K2.refl _ _ _⟩⟩
  case round =>
    obtain ⟨i, rfl, HIQ, HD, HK⟩ := hrel
    have HBi : Aside0 (Below w.heap.size w wr) := ⟨HB4.out.trans (below_cut HK.out.below (by have := HNE.out; omega))⟩
    by_cases hlt : i < c.f4.length
    · have hi0 : (0 : Int) ≤ (i : Int) := by omega
      have hi1 : (i : Int) < (c.f4.length : Int) := by omega
      obtain ⟨ad, eA, z0, z1, z2, z3, z4, z5, z6, z7⟩ := at_T37 (HM.out.below HBi.out).o (i : Int) hi0 hi1
      subst eA
      rw [Int.toNat_natCast] at z0 z1 z2 z3 z4 z5 z6 z7
      have hdec : decide ((i : Int) < (c.f4.length : Int)) = true := decide_eq_true hi1
      have hdec2 : decide (i < c.f4.length) = true := decide_eq_true hlt
      have HLT := Aside0.mk hlt
      have HW64 : Aside0 (wrap64 ((i : Int) + 1) = ((i + 1 : Nat) : Int)) := ⟨by have := HN4.out; unfold wrap64; omega⟩
      have HRI := Aside0.mk (reads_in HG.out hlt)
      have HWI := Aside0.mk (writes_in HG.out hlt)
      have HRS := Aside0.mk (regsAt_succ c hlt)
      generalize rd_T37 c.f4 (i : Int) = x at z0 z1 z2 z3 z4 z5 z6 z7 HRI HWI HRS
      obtain ⟨o9, ho9⟩ : ∃ ob, ob = Obj.cells #[.int .i64 x.f0, .int .i64 x.f1, .int .i64 x.f2, .int .i64 x.f3, .int .i64 x.f4, .int .i64 x.f5, .int .i64 x.f6.f0, .int .i64 x.f6.f1] 37 := ⟨_, rfl⟩
      have hal := below_alloc (Below.refl wr.heap.size wr) o9
      have HX9 : Aside0 ((wr.alloc o9).heap[wr.heap.size]? = some (.cells #[.int .i64 x.f0, .int .i64 x.f1, .int .i64 x.f2, .int .i64 x.f3, .int .i64 x.f4, .int .i64 x.f5, .int .i64 x.f6.f0, .int .i64 x.f6.f1] 37 (0, 0))) := ⟨by rw [ho9]; exact blk_new wr _⟩
      have HB9 := Aside0.mk (below_step HBi.out hal)
      have HD9 := Aside0.mk (blk_below HD.out hal)
      have HK9 := Aside0.mk (HK.out.trans (K2.of_below (b := bD) (g := bD) hal (blk_lt HD.out)))
      have HXD : Aside0 (wr.heap.size ≠ bD) := ⟨by have := blk_lt HD.out; omega⟩
      clear hal hlt HBi HD HK
      go_upto_region 9 with fail
      rw [← ho9]
      clear ho9 z0 z1 z2 z3 z4 z5 z6 z7
      generalize wr.alloc o9 = w9 at HX9 HB9 HD9 HK9 ⊢
      generalize wr.heap.size = bX at HX9 HXD ⊢
      have x0 := (blk_cell HX9.out 0).trans rfl
      have x1 := (blk_cell HX9.out 1).trans rfl
      have x2 := (blk_cell HX9.out 2).trans rfl
      have x3 := (blk_cell HX9.out 3).trans rfl
      have x4 := (blk_cell HX9.out 4).trans rfl
      have x5 := (blk_cell HX9.out 5).trans rfl
      have x6 := (blk_cell HX9.out 6).trans rfl
      have x7 := (blk_cell HX9.out 7).trans rfl
      go_wp2_with fail
      refine (reads_calls _ x).mono ?_
      rintro e wA ⟨vA, rfl, hRA, hbA⟩
      obtain ⟨AA, cA, rfl⟩ := Kd.R_slice hRA
      have HL := Aside0.mk (Kd.R_reads' hRA).2.2
      have HLZ := Aside0.mk (readsL_len x)
      have HXA := Aside0.mk (blk_below HX9.out hbA)
      have HBA := Aside0.mk (below_step HB9.out hbA)
      have HDA := Aside0.mk (blk_below HD9.out hbA)
      have HKA := Aside0.mk (HK9.out.trans (K2.of_below (b := bD) (g := bD) hbA (blk_lt HD9.out)))
      clear hRA hbA HX9 HB9 HD9 HK9 x0 x1 x2 x3 x4 x5 x6 x7
      generalize readsL x = l at HL HLZ HRI ⊢
      obtain ⟨wo, rfl⟩ : ∃ wo, wo = wr := ⟨wr, rfl⟩
      go_wp2_with fail
      go_loopg [25] l.length (fun kq v25 W => ∃ j : Nat, v25 = .int .i64 (j : Int) ∧ Aside0 (j ≤ l.length ∧ kq = l.length - j) ∧ Aside0 (Below wA.heap.size wA W))
      case atStart => exact ⟨0, rfl, ⟨Nat.zero_le _, by omega⟩, ⟨Below.refl _ _⟩⟩
      case round =>
        obtain ⟨j, rfl, HJQ, HBj⟩ := hrel
        by_cases hlj : j < l.length
        · have hj0 : (0 : Int) ≤ (j : Int) := by omega
          have hj1 : (j : Int) < (l.length : Int) := by omega
          obtain ⟨ad2, e, hx⟩ := Kd.at_int (Kd.C_below HL.out HBj.out) (j : Int) (by omega) (by omega)
          rw [Int.toNat_natCast, rdI hlj] at hx
          subst e
          have hjec : decide ((j : Int) < (l.length : Int)) = true := decide_eq_true hj1
          have hjec2 : decide (j < l.length) = true := decide_eq_true hlj
          have HLJ := Aside0.mk hlj
          obtain ⟨hy0, hy1, hy2⟩ := HRI.out l[j] (List.getElem_mem hlj)
          generalize l[j] = y at hx hy0 hy1 hy2
          have q0 : decide (y < 0) = false := decide_eq_false (by omega)
          have q1 : decide (y ≥ 8) = false := decide_eq_false (by omega)
          have q2 : decide (8 ≤ y) = false := decide_eq_false (by omega)
          have q3 : decide (0 ≤ y) = true := decide_eq_true hy0
          have q4 : decide (y < 8) = true := decide_eq_true hy1
          have c0 := done_cell (blk_below HDA.out HBj.out) (regsAt_len c i) y.toNat (by omega)
          rw [hy2] at c0
          clear hy2 hlj
          go_wp2_with fail
          go_roundg (l.length - (j + 1))
          case measure => have := HJQ.out; have := HLJ.out; omega
          case rel =>
            refine ⟨j + 1, by first | rfl | (have := HLJ.out; have := HLZ.out; rw [show wrap64 ((j : Int) + 1) = ((j + 1 : Nat) : Int) from by unfold wrap64; omega]), ⟨by have := HLJ.out; omega, rfl⟩, HBj⟩
        · have e_ : j = l.length := by have := HJQ.out; omega
          subst e_
          have hjec : decide ((l.length : Int) < (l.length : Int)) = false := decide_eq_false (by omega)
          have hjec2 : decide (l.length < l.length) = false := decide_eq_false hlj
          have HXB := Aside0.mk (blk_below HXA.out HBj.out)
          have HDB := Aside0.mk (blk_below HDA.out HBj.out)
          have HKB := Aside0.mk (HKA.out.trans (K2.of_below (b := bD) (g := bD) HBj.out (blk_lt HDA.out)))
          clear hlj HJQ HXA HBA HDA HKA HBj HL HRI
          have x0 := (blk_cell HXB.out 0).trans rfl
          have x1 := (blk_cell HXB.out 1).trans rfl
          have x2 := (blk_cell HXB.out 2).trans rfl
          have x3 := (blk_cell HXB.out 3).trans rfl
          have x4 := (blk_cell HXB.out 4).trans rfl
          have x5 := (blk_cell HXB.out 5).trans rfl
          have x6 := (blk_cell HXB.out 6).trans rfl
          have x7 := (blk_cell HXB.out 7).trans rfl
          go_wp2_with fail
          refine (order_Writes.calls x.f0 x.f1 x.f2 x.f3 x.f4 x.f5 x.f6.f0 x.f6.f1 (writesO x) _ (writes_f x)).mono ?_
          rintro e wC ⟨rfl, hbC⟩
          have HDC := Aside0.mk (blk_below HDB.out hbC)
          have HKC := Aside0.mk (HKB.out.trans (K2.of_below (b := bD) (g := bD) hbC (blk_lt HDB.out)))
          have HSR : Aside0 (setR (regsAt c i) x = if 0 ≤ writesO x then (regsAt c i).set (writesO x).toNat true else regsAt c i) := ⟨rfl⟩
          generalize writesO x = wo_ at HWI HSR ⊢
          clear hbC HXB HDB HKB x0 x1 x2 x3 x4 x5 x6 x7
          by_cases hwo : 0 ≤ wo_
          · have d9 : decide (wo_ ≥ 0) = true := decide_eq_true hwo
            have d9b : decide (0 ≤ wo_) = true := decide_eq_true hwo
            have hw8 := HWI.out hwo
            have d8 : decide (wo_ < 8) = true := decide_eq_true hw8
            have HS2 : Aside0 (regsAt c (i + 1) = (regsAt c i).set wo_.toNat true) := ⟨by rw [HRS.out, HSR.out, if_pos hwo]⟩
            have fz := blk_frozen HDC.out wo_.toNat
            have c0 := done_cell HDC.out (regsAt_len c i) wo_.toNat (by omega)
            generalize (regsAt c i).getD wo_.toNat false = sv at c0
            go_wp2_with fail
            go_roundg (c.f4.length - (i + 1))
            case measure => have := HIQ.out; have := HLT.out; omega
            case rel =>
              refine ⟨i + 1, by first | rfl | rw [HW64.out], ⟨by have := HLT.out; omega, rfl⟩, ⟨?_⟩, ⟨HKC.out.trans (K2.setR bD bD _ wo_.toNat _)⟩⟩
              rw [HS2.out, List.map_set]
              exact blk_put HDC.out wo_.toNat _ (by simp [List.setIfInBounds_toArray])
          · have d9 : decide (wo_ ≥ 0) = false := decide_eq_false hwo
            have d9b : decide (0 ≤ wo_) = false := decide_eq_false hwo
            have HS2 : Aside0 (regsAt c (i + 1) = regsAt c i) := ⟨by rw [HRS.out, HSR.out, if_neg hwo]⟩
            clear hwo
            go_wp2_with fail
            go_roundg (c.f4.length - (i + 1))
            case measure => have := HIQ.out; have := HLT.out; omega
            case rel =>
              refine ⟨i + 1, by first | rfl | rw [HW64.out], ⟨by have := HLT.out; omega, rfl⟩, ⟨?_⟩, HKC⟩
              rw [HS2.out]
              exact HDC.out
    · have e_ : i = c.f4.length := by have := HIQ.out; omega
      subst e_
      have hdec : decide ((c.f4.length : Int) < (c.f4.length : Int)) = false := decide_eq_false (by omega)
      have hdec2 : decide (c.f4.length < c.f4.length) = false := decide_eq_false hlt
      clear hlt HIQ HD HK
      go_wp2_with fail
      refine (ordered_calls _).mono ?_
      rintro e w7 ⟨rfl, hb7⟩
      have HB7 := Aside0.mk (below_step HBi.out hb7)
      clear hb7
      go_wp2_with fail
      go_ret
      exact ⟨rfl, HB7.out⟩
end Go.Proofs.Ytecaemebamhamaa.Lv
