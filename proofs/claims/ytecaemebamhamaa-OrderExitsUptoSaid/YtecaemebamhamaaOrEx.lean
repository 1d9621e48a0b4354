/- The law function OrderExits walked. -/
import Derived.Test.YtecaemebamhamaaOrOr
import Derived.Test.YtecaemebamhamaaPO2
set_option linter.unusedVariables false
set_option linter.unusedSimpArgs false
namespace Go.Proofs.Ytecaemebamhamaa.Lv
open Go.RowKit Go.Proofs.YtecaemebamhamaaW.PrintWords Go.Proofs.YtecaemebamhamaaW.PrintLast Go.Proofs.YtecaemebamhamaaW.PrintMore Go.Proofs.Ytecaemebamhamaa.PO Go.Proofs.Ytecaemebamhamaa.Hnd Go.Lib
theorem copy_f (l : List RO) (h : l.length ≤ 1048576) : api_ROrder.f l = some l := by
  unfold api_ROrder.f
  rw [if_pos (by simp; omega), List.nil_append]
theorem infoRO : (Try.prog.info? 37).map (fun i => (i.zero, i.size, i.bytes)) = some (some (.agg #[.int .i64 0, .int .i64 0, .int .i64 0, .int .i64 0, .int .i64 0, .int .i64 0, .int .i64 0, .int .i64 0]), 8, 64) := by kernel_rfl

theorem done_cell {w : World} {b : Nat} {t : Nat} {regs : List Bool} (h : w.heap[b]? = some (.cells (regs.map Value.bool).toArray t (0, 0))) (h8 : regs.length = 8) (i : Nat) (hi : i < 8) : w.cell? ⟨b, i, none⟩ = some (.bool (regs.getD i false)) := by
  rw [blk_cell h, List.getElem?_toArray, List.getElem?_map, List.getElem?_eq_getElem (by omega), List.getD_eq_getElem?_getD, List.getElem?_eq_getElem (by omega)]
  rfl
set_option maxHeartbeats 32000000 in
set_option maxRecDepth 100000 in
theorem exits_calls (w : World) {AO : Option Addr} {cO : Nat} {AE : Option Addr} {cE : Nat} {A1 : Option Addr} {c1 : Nat} {A2 : Option Addr} {c2 : Nat} {A3 : Option Addr} {c3 : Nat} {A4 : Option Addr} {c4 : Nat} (c : RC) (hm : CMem w (AO := AO) (cO := cO) (AE := AE) (cE := cE) (A1 := A1) (c1 := c1) (A2 := A2) (c2 := c2) (A3 := A3) (c3 := c3) (A4 := A4) (c4 := c4) c) (hz : CSz c) :
    Calls Try.prog 3 #[.agg #[.int .i64 c.f0, .int .i64 c.f1, .int .i64 c.f2, .int .i64 c.f3, .slice AO c.f4.length cO, .slice AE c.f5.length cE, .int .i64 c.f6.f0, .int .i64 c.f6.f1, .slice A1 c.f6.f2.length c1, .slice A2 c.f6.f3.length c2, .int .i64 c.f7.f0, .int .i64 c.f7.f1, .slice A3 c.f7.f2.length c3, .slice A4 c.f7.f3.length c4]] w fun e w' => e = .returned (.bool true) ∧ Below w.heap.size w w' := by
  obtain ⟨o1, ho1⟩ : ∃ ob, ob = Obj.cells #[.int .i64 c.f0, .int .i64 c.f1, .int .i64 c.f2, .int .i64 c.f3, .slice AO c.f4.length cO, .slice AE c.f5.length cE, .int .i64 c.f6.f0, .int .i64 c.f6.f1, .slice A1 c.f6.f2.length c1, .slice A2 c.f6.f3.length c2, .int .i64 c.f7.f0, .int .i64 c.f7.f1, .slice A3 c.f7.f2.length c3, .slice A4 c.f7.f3.length c4] 29 := ⟨_, rfl⟩
  have hal := below_alloc (Below.refl w.heap.size w) o1
  have HC : Aside0 ((w.alloc o1).heap[w.heap.size]? = some (.cells #[.int .i64 c.f0, .int .i64 c.f1, .int .i64 c.f2, .int .i64 c.f3, .slice AO c.f4.length cO, .slice AE c.f5.length cE, .int .i64 c.f6.f0, .int .i64 c.f6.f1, .slice A1 c.f6.f2.length c1, .slice A2 c.f6.f3.length c2, .int .i64 c.f7.f0, .int .i64 c.f7.f1, .slice A3 c.f7.f2.length c3, .slice A4 c.f7.f3.length c4] 29 (0, 0))) := ⟨by rw [ho1]; exact blk_new w _⟩
  have HB := Aside0.mk hal
  have HM := Aside0.mk hm
  have HZ := Aside0.mk hz
  clear hal hm hz
  go_enter Try.func3, Try.ntmps3
  go_wp2_with fail
  rw [← ho1]
  clear ho1
  generalize w.alloc o1 = wa at HC HB ⊢
  refine (ordered_calls _).mono ?_
  rintro e w2 ⟨rfl, hb2⟩
  have HB2 := Aside0.mk (below_step HB.out hb2)
  have HC2 := Aside0.mk (blk_below HC.out hb2)
  clear hb2 HB HC
  have y0 := (blk_cell HC2.out 0).trans rfl
  have y1 := (blk_cell HC2.out 1).trans rfl
  have y2 := (blk_cell HC2.out 2).trans rfl
  have y3 := (blk_cell HC2.out 3).trans rfl
  have y4 := (blk_cell HC2.out 4).trans rfl
  have y5 := (blk_cell HC2.out 5).trans rfl
  have y6 := (blk_cell HC2.out 6).trans rfl
  have y7 := (blk_cell HC2.out 7).trans rfl
  have y8 := (blk_cell HC2.out 8).trans rfl
  have y9 := (blk_cell HC2.out 9).trans rfl
  have y10 := (blk_cell HC2.out 10).trans rfl
  have y11 := (blk_cell HC2.out 11).trans rfl
  have y12 := (blk_cell HC2.out 12).trans rfl
  have y13 := (blk_cell HC2.out 13).trans rfl
  go_wp2_with fail
  refine (ocheck_calls w2 c (HM.out.below HB2.out) HZ.out).mono ?_
  rintro e w3 ⟨er, rfl, hchk, hb3⟩
  have HB3 := Aside0.mk (below_step HB2.out hb3)
  have HC3 := Aside0.mk (blk_below HC2.out hb3)
  clear hb3 HB2 HC2 y0 y1 y2 y3 y4 y5 y6 y7 y8 y9 y10 y11 y12 y13
  by_cases her : er ≠ 0
  · have hed : (er != 0) = true := bne_iff_ne.mpr her
    clear hchk her
    go_wp2_with fail
    refine (ordered_calls _).mono ?_
    rintro e w4 ⟨rfl, hb4⟩
    have HB4 := Aside0.mk (below_step HB3.out hb4)
    clear hb4
    go_wp2_with fail
    go_ret
    exact ⟨rfl, HB4.out⟩
  have her : er = 0 := Decidable.not_not.1 her
  subst her
  have HG := Aside0.mk hchk.good
  clear hchk
  have he0 : ((0 : Int) != 0) = false := by decide
  have y0 := (blk_cell HC3.out 0).trans rfl
  have y1 := (blk_cell HC3.out 1).trans rfl
  have y2 := (blk_cell HC3.out 2).trans rfl
  have y3 := (blk_cell HC3.out 3).trans rfl
  have y4 := (blk_cell HC3.out 4).trans rfl
  have y5 := (blk_cell HC3.out 5).trans rfl
  have y6 := (blk_cell HC3.out 6).trans rfl
  have y7 := (blk_cell HC3.out 7).trans rfl
  have y8 := (blk_cell HC3.out 8).trans rfl
  have y9 := (blk_cell HC3.out 9).trans rfl
  have y10 := (blk_cell HC3.out 10).trans rfl
  have y11 := (blk_cell HC3.out 11).trans rfl
  have y12 := (blk_cell HC3.out 12).trans rfl
  have y13 := (blk_cell HC3.out 13).trans rfl
  by_cases h1 : 190 ≤ (c.f5.length : Int)
  · have H1 := Aside0.mk h1
    have d1 : decide ((190 : Int) ≤ (c.f5.length : Int)) = true := decide_eq_true h1
    have e1 : decide ((c.f5.length : Int) ≥ (190 : Int)) = true := d1
    clear h1
    clear y0 y1 y2 y3 y6 y7 y8 y9 y10 y11 y12 y13
    go_wp2_with fail
    refine (ordered_calls _).mono ?_
    rintro e w4 ⟨rfl, hb4⟩
    have HB4 := Aside0.mk (below_step HB3.out hb4)
    clear hb4
    go_wp2_with fail
    go_ret
    exact ⟨rfl, HB4.out⟩
  · have H1 := Aside0.mk h1
    have d1 : decide ((190 : Int) ≤ (c.f5.length : Int)) = false := decide_eq_false h1
    have e1 : decide ((c.f5.length : Int) ≥ (190 : Int)) = false := d1
    clear h1
    by_cases h2 : (c.f4.length : Int) = 0
    · have H2 := Aside0.mk h2
      have d2 : ((c.f4.length : Int) == 0) = true := by rw [beq_iff_eq]; exact h2
      have e2 : ((c.f4.length : Int) != 0) = false := by rw [bne, d2]; rfl
      clear h2
      clear y0 y1 y2 y3 y6 y7 y8 y9 y10 y11 y12 y13
      go_wp2_with fail
      refine (ordered_calls _).mono ?_
      rintro e w4 ⟨rfl, hb4⟩
      have HB4 := Aside0.mk (below_step HB3.out hb4)
      clear hb4
      go_wp2_with fail
      go_ret
      exact ⟨rfl, HB4.out⟩
    · have H2 := Aside0.mk h2
      have d2 : ((c.f4.length : Int) == 0) = false := beq_eq_false_iff_ne.mpr h2
      have e2 : ((c.f4.length : Int) != 0) = true := by rw [bne, d2]; rfl
      clear h2
      by_cases h3 : 1400 ≤ (c.f4.length : Int)
      · have H3 := Aside0.mk h3
        have d3 : decide ((1400 : Int) ≤ (c.f4.length : Int)) = true := decide_eq_true h3
        have e3 : decide ((c.f4.length : Int) ≥ (1400 : Int)) = true := d3
        clear h3
        clear y0 y1 y2 y3 y6 y7 y8 y9 y10 y11 y12 y13
        go_wp2_with fail
        refine (ordered_calls _).mono ?_
        rintro e w4 ⟨rfl, hb4⟩
        have HB4 := Aside0.mk (below_step HB3.out hb4)
        clear hb4
        go_wp2_with fail
        go_ret
        exact ⟨rfl, HB4.out⟩
      · have H3 := Aside0.mk h3
        have d3 : decide ((1400 : Int) ≤ (c.f4.length : Int)) = false := decide_eq_false h3
        have e3 : decide ((c.f4.length : Int) ≥ (1400 : Int)) = false := d3
        clear h3
        have HN : Aside0 (c.f5.length < 190 ∧ c.f4.length < 1400) := ⟨by have := H1.out; have := H3.out; omega⟩
        clear H1 H2 H3
        obtain ⟨oD, hoD⟩ : ∃ ob, ob = Obj.cells #[.int .i64 c.f0, .int .i64 c.f1, .int .i64 c.f2, .int .i64 c.f3, .slice AO c.f4.length cO, .slice AE c.f5.length cE, .int .i64 c.f6.f0, .int .i64 c.f6.f1, .slice A1 c.f6.f2.length c1, .slice A2 c.f6.f3.length c2, .int .i64 c.f7.f0, .int .i64 c.f7.f1, .slice A3 c.f7.f2.length c3, .slice A4 c.f7.f3.length c4] 29 := ⟨_, rfl⟩
        have hal := below_alloc (Below.refl w3.heap.size w3) oD
        have HB4 := Aside0.mk (below_step HB3.out hal)
        have HC4 := Aside0.mk (blk_below HC3.out hal)
        have HD4 : Aside0 ((w3.alloc oD).heap[w3.heap.size]? = some (.cells #[.int .i64 c.f0, .int .i64 c.f1, .int .i64 c.f2, .int .i64 c.f3, .slice AO c.f4.length cO, .slice AE c.f5.length cE, .int .i64 c.f6.f0, .int .i64 c.f6.f1, .slice A1 c.f6.f2.length c1, .slice A2 c.f6.f3.length c2, .int .i64 c.f7.f0, .int .i64 c.f7.f1, .slice A3 c.f7.f2.length c3, .slice A4 c.f7.f3.length c4] 29 (0, 0))) := ⟨by rw [hoD]; exact blk_new w3 _⟩
        have HG4 : Aside0 (w.heap.size < w3.heap.size) := ⟨blk_lt HC3.out⟩
        clear hal HB3 HC3
        go_upto_region 6 with fail
        rw [← hoD]
        clear hoD y0 y1 y2 y3 y4 y5 y6 y7 y8 y9 y10 y11 y12 y13
        clear d1 e1 d2 e2 d3 e3
        generalize w3.alloc oD = w4 at HB4 HC4 HD4 ⊢
        generalize w3.heap.size = bD at HD4 HG4 ⊢
        have y4 := (blk_cell HC4.out 4).trans rfl
        go_wp2_with fail
        refine (api_ROrder.calls AO cO c.f4 c.f4 _ (HM.out.below HB4.out).o HM.out.oc (copy_f c.f4 HZ.out.o)).mono ?_
        rintro e w5 ⟨v5, rfl, hR5, hb5⟩
        obtain ⟨A5, c5, rfl⟩ := Kd.R_slice hR5
        have HO5 := Aside0.mk (Kd.R_N (Kd.R_mono (Kd.R_bound hR5) (ok' := fun k => w4.heap.size ≤ k) (fun k hk => hk.2.1)))
        have HB5 := Aside0.mk (below_step HB4.out hb5)
        have HC5 := Aside0.mk (blk_below HC4.out hb5)
        have HD5 := Aside0.mk (blk_below HD4.out hb5)
        have HS5 : Aside0 (w4.heap.size ≤ w5.heap.size ∧ bD < w4.heap.size) := ⟨hb5.size, blk_lt HD4.out⟩
        clear hR5 hb5 HB4 HC4 HD4 y4
        have HU2 := Try.underlying22
        have HK7 : Aside0 (Kd.FK k37 w5 (fun _ => False) (oSelf 7) [.int .i64 6, .int .i64 7, .int .i64 0, .int .i64 0, .int .i64 0, .int .i64 (-1), .int .i64 0, .int .i64 0]) := ⟨fun W' _ => k37_mk W' (oSelf 7)⟩
        have HK6 : Aside0 (Kd.FK k37 w5 (fun _ => False) (oMov 6 7) [.int .i64 1, .int .i64 6, .int .i64 7, .int .i64 0, .int .i64 0, .int .i64 (-1), .int .i64 0, .int .i64 0]) := ⟨fun W' _ => k37_mk W' (oMov 6 7)⟩
        go_upto_region 7 with (first | ((with_reducible refine gate_dst (N := 36) rfl ?_); refine Kd.N_lit k37 _ 37 ?hg (N' := 36) ?hd (xs := [oSelf 7, oMov 6 7]) (inner := [.int .i64 6, .int .i64 7, .int .i64 0, .int .i64 0, .int .i64 0, .int .i64 (-1), .int .i64 0, .int .i64 0, .int .i64 1, .int .i64 6, .int .i64 7, .int .i64 0, .int .i64 0, .int .i64 (-1), .int .i64 0, .int .i64 0]) (ok := fun k_ => w5.heap.size ≤ k_) (okp := fun _ => False) ?hr ?hp (fun _ hk => hk.elim) (Nat.le_refl _) (Below.refl _ _) (Nat.le_refl _) (by simp) ?_; (case hd => rfl); (case hg => rfl); (case hr => first | (go_simp; done) | (go_simp; rfl)); (case hp => exact Reps.front HK7.out rfl (Reps.front HK6.out rfl (Reps.none _ _) rfl) rfl); intro v7 w7_ ho hb hg hnew; obtain ⟨A7, a7, e7⟩ := Kd.N_slice ho; subst e7; have HO7 := Aside0.mk ho; have HB7 := Aside0.mk hb; clear ho hb hg hnew) | ((with_reducible refine gate_builtin (b := .append) (xs := #[.tmp 33, .tmp 36]) rfl ?_); refine Kd.N_append_rows k37 (w0 := w5) w4.heap.size rfl (.tmp 33) (.tmp 36) 22 37 (.agg #[.int .i64 0, .int .i64 0, .int .i64 0, .int .i64 0, .int .i64 0, .int .i64 0, .int .i64 0, .int .i64 0]) 64 rfl HU2 infoRO rfl (by decide) (by decide) (.slice A5 c.f4.length c5) c.f4 [oSelf 7, oMov 6 7] A7 2 a7 (fun k_ => w4.heap.size ≤ k_) (fun k_ => w5.heap.size ≤ k_) rfl rfl (Kd.N_below HO5.out HB7.out) (Kd.N_F HO7.out) ?ho ?hf (below_cut HB7.out HS5.out.1) (Nat.le_trans HS5.out.1 HB7.out.size) ?hl ?_; (case ho => exact fun k hk => ⟨Nat.le_trans HS5.out.1 hk, fun e => by have h1_ := Kd.N_lt HO5.out k e.symm; omega⟩); (case hf => exact fun k hk => Nat.le_trans HS5.out.1 (Nat.le_trans HB7.out.size hk)); (case hl => have h_ := HN.out.2; omega); intro v8 w8_ ho hb hg hat; obtain ⟨A8, a8, e8⟩ := Kd.N_slice ho; subst e8; have HO8 := Aside0.mk ho; have HB8 := Aside0.mk hb; have HD8_ := Aside0.mk (blk_deeper HD5.out hb HS5.out.2); have fz := blk_frozen HD8_.out 4; have x4_ := (blk_cell HD8_.out 4).trans rfl; clear ho hb hg hat))
        have HB6 : Aside0 (Below w.heap.size w (w8_.setCell ⟨bD, 4, none⟩ (.slice A8 (c.f4.length + 2) a8))) := ⟨(HB5.out.trans (below_cut HB8.out (by have := HG4.out; have := HS5.out; omega))).setCell (p := ⟨bD, 4, none⟩) (Nat.le_of_lt HG4.out) _⟩
        have HC6 : Aside0 ((w8_.setCell ⟨bD, 4, none⟩ (.slice A8 (c.f4.length + 2) a8)).heap[w.heap.size]? = some (.cells #[.int .i64 c.f0, .int .i64 c.f1, .int .i64 c.f2, .int .i64 c.f3, .slice AO c.f4.length cO, .slice AE c.f5.length cE, .int .i64 c.f6.f0, .int .i64 c.f6.f1, .slice A1 c.f6.f2.length c1, .slice A2 c.f6.f3.length c2, .int .i64 c.f7.f0, .int .i64 c.f7.f1, .slice A3 c.f7.f2.length c3, .slice A4 c.f7.f3.length c4] 29 (0, 0))) := ⟨blk_far (blk_deeper HC5.out HB8.out (by have := HG4.out; have := HS5.out; omega)) (p := ⟨bD, 4, none⟩) (Nat.ne_of_lt HG4.out) _⟩
        have HD6 : Aside0 ((w8_.setCell ⟨bD, 4, none⟩ (.slice A8 (c.f4.length + 2) a8)).heap[bD]? = some (.cells #[.int .i64 c.f0, .int .i64 c.f1, .int .i64 c.f2, .int .i64 c.f3, .slice A8 (c.f4.length + 2) a8, .slice AE c.f5.length cE, .int .i64 c.f6.f0, .int .i64 c.f6.f1, .slice A1 c.f6.f2.length c1, .slice A2 c.f6.f3.length c2, .int .i64 c.f7.f0, .int .i64 c.f7.f1, .slice A3 c.f7.f2.length c3, .slice A4 c.f7.f3.length c4] 29 (0, 0))) := ⟨blk_put HD8_.out 4 _ rfl⟩
        have HO6 : Aside0 (Kd.F k37 (w8_.setCell ⟨bD, 4, none⟩ (.slice A8 (c.f4.length + 2) a8)) (fun k => k < (w8_.setCell ⟨bD, 4, none⟩ (.slice A8 (c.f4.length + 2) a8)).heap.size) A8 (c.f4 ++ [oSelf 7, oMov 6 7]).length (c.f4 ++ [oSelf 7, oMov 6 7])) := ⟨Kd.F_mono (Kd.F_bound (Kd.N_F (Kd.N_far HO8.out (p := ⟨bD, 4, none⟩) (fun k hk e => by have := HS5.out.2; simp only at e; omega) _))) (fun k hk => hk.2)⟩
        have HCA : Aside0 ((c.f4 ++ [oSelf 7, oMov 6 7]).length ≤ a8) := ⟨(Kd.N_reads' HO8.out).2.1⟩
        clear HO8 HB8 HD8_ fz x4_ HO7 HB7 HO5 HB5 HC5 HD5 HS5 HK7 HK6 HU2
        generalize (w8_.setCell ⟨bD, 4, none⟩ (.slice A8 (c.f4.length + 2) a8)) = w6 at HB6 HC6 HD6 HO6 ⊢
        have y0 := (blk_cell HC6.out 0).trans rfl
        have y1 := (blk_cell HC6.out 1).trans rfl
        have y2 := (blk_cell HC6.out 2).trans rfl
        have y3 := (blk_cell HC6.out 3).trans rfl
        have y4 := (blk_cell HC6.out 4).trans rfl
        have y5 := (blk_cell HC6.out 5).trans rfl
        have y6 := (blk_cell HC6.out 6).trans rfl
        have y7 := (blk_cell HC6.out 7).trans rfl
        have y8 := (blk_cell HC6.out 8).trans rfl
        have y9 := (blk_cell HC6.out 9).trans rfl
        have y10 := (blk_cell HC6.out 10).trans rfl
        have y11 := (blk_cell HC6.out 11).trans rfl
        have y12 := (blk_cell HC6.out 12).trans rfl
        have y13 := (blk_cell HC6.out 13).trans rfl
        obtain ⟨oE, hoE⟩ : ∃ ob, ob = Obj.cells #[.int .i64 c.f0, .int .i64 c.f1, .int .i64 c.f2, .int .i64 c.f3, .slice AO c.f4.length cO, .slice AE c.f5.length cE, .int .i64 c.f6.f0, .int .i64 c.f6.f1, .slice A1 c.f6.f2.length c1, .slice A2 c.f6.f3.length c2, .int .i64 c.f7.f0, .int .i64 c.f7.f1, .slice A3 c.f7.f2.length c3, .slice A4 c.f7.f3.length c4] 29 := ⟨_, rfl⟩
        have hal := below_alloc (Below.refl w6.heap.size w6) oE
        have HBx := Aside0.mk (below_step HB6.out hal)
        have HCx := Aside0.mk (blk_below HC6.out hal)
        have HEx : Aside0 ((w6.alloc oE).heap[w6.heap.size]? = some (.cells #[.int .i64 c.f0, .int .i64 c.f1, .int .i64 c.f2, .int .i64 c.f3, .slice AO c.f4.length cO, .slice AE c.f5.length cE, .int .i64 c.f6.f0, .int .i64 c.f6.f1, .slice A1 c.f6.f2.length c1, .slice A2 c.f6.f3.length c2, .int .i64 c.f7.f0, .int .i64 c.f7.f1, .slice A3 c.f7.f2.length c3, .slice A4 c.f7.f3.length c4] 29 (0, 0))) := ⟨by rw [hoE]; exact blk_new w6 _⟩
        have HLx : Aside0 (w.heap.size < w6.heap.size) := ⟨blk_lt HC6.out⟩
        have HD6x : Aside0 ((w6.alloc oE).heap[bD]? = _) := ⟨blk_below HD6.out hal⟩
        have HD6l : Aside0 (bD < w6.heap.size) := ⟨blk_lt HD6.out⟩
        have HO6x : Aside0 (Kd.F k37 (w6.alloc oE) (fun k => k < w6.heap.size) A8 (c.f4 ++ [oSelf 7, oMov 6 7]).length (c.f4 ++ [oSelf 7, oMov 6 7])) := ⟨Kd.F_below HO6.out hal⟩
        clear hal HB6 HC6 HD6 HO6
        go_upto_region 8 with fail
        rw [← hoE]
        clear hoE y0 y1 y2 y3 y4 y5 y6 y7 y8 y9 y10 y11 y12 y13
        generalize w6.alloc oE = wx at HBx HCx HEx HD6x HO6x ⊢
        generalize w6.heap.size = bE at HEx HLx HD6l HO6x ⊢
        have y5 := (blk_cell HCx.out 5).trans rfl
        have HEL : Aside0 (bE < wx.heap.size) := ⟨blk_lt HEx.out⟩
        have HU := Try.underlying23
        have HEF := Aside0.mk (Kd.F_below (Kd.C_F k27_heap HM.out.e) HBx.out)
        go_upto_region 9 with (first | ((with_reducible refine gate_dst (N := 40) rfl ?_); refine Kd.N_lit k27 _ 27 ?hg (N' := 40) ?hd (xs := ([] : List RX)) (inner := []) (ok := (fun k_ => k_ < w.heap.size ∨ wx.heap.size ≤ k_)) (okp := fun _ => False) ?hr ?hp (fun _ hk => hk.elim) (.inr (Nat.le_refl _)) (Below.refl _ _) (Nat.le_refl _) (by simp) ?_; (case hd => rfl); (case hg => rfl); (case hr => first | (go_simp; done) | (go_simp; rfl)); (case hp => exact Reps.none _ _); intro v1 w1_ ho hb hg hnew; have HO1 := Aside0.mk ho; have HB1 := Aside0.mk hb; have y5_ := pw_cell_below hb y5; clear ho hb hg hnew) | ((with_reducible refine gate_builtin (b := .append) (xs := #[.tmp 40, .tmp 42]) rfl ?_); refine Kd.N_append_rows k27 (w0 := wx) wx.heap.size rfl (.tmp 40) (.tmp 42) 23 27 (.agg #[.int .i64 0, .int .i64 0, .slice none 0 0, .slice none 0 0]) 64 rfl HU infoRX rfl (by decide) (by decide) v1 [] c.f5 AE c.f5.length cE (fun k_ => k_ < w.heap.size ∨ wx.heap.size ≤ k_) (fun k_ => k_ < w.heap.size) rfl rfl HO1.out (Kd.F_below HEF.out HB1.out) ?ho ?hf HB1.out HB1.out.size ?hl ?_; (case ho => exact fun k hk => ⟨.inl hk, fun e => by have h1_ := Kd.N_base HO1.out k e.symm; have h2_ := HLx.out; have h3_ := HEL.out; omega⟩); (case hf => exact fun k hk => .inr (Nat.le_trans HB1.out.size hk)); (case hl => have h_ := HN.out.1; simp; omega); intro v2 w2_ ho hb hg hat; rw [List.nil_append] at ho; obtain ⟨A2_, a2_, e2_⟩ := Kd.N_slice ho; subst e2_; have HO2 := Aside0.mk ho; have HB2_ := Aside0.mk hb; clear ho hb hg hat) | ((with_reducible refine gate_dst (N := 45) rfl ?_); refine Kd.N_lit k27 _ 27 ?hg (N' := 45) ?hd (xs := [(⟨1, 0, [], []⟩ : RX)]) (inner := [.int .i64 1, .int .i64 0, .slice none 0 0, .slice none 0 0]) (ok := fun k_ => w2_.heap.size ≤ k_) (okp := fun _ => False) ?hr ?hp (fun _ hk => hk.elim) (Nat.le_refl _) (Below.refl _ _) (Nat.le_refl _) (by simp) ?_; (case hd => rfl); (case hg => rfl); (case hr => first | (go_simp; done) | (go_simp; rfl)); (case hp => exact Reps.front (mkRX (W := w2_) (ok := fun _ => False) (⟨1, 0, [], []⟩ : RX) (Nat.le_refl 0) (fun W' _ => Kd.C_nil _ _) (Nat.le_refl 0) (fun W' _ => Kd.C_nil _ _)) rfl (Reps.none _ _) rfl); intro v3 w3_ ho hb hg hnew; obtain ⟨A3_, a3_, e3_⟩ := Kd.N_slice ho; subst e3_; have HO3 := Aside0.mk ho; have HB3_ := Aside0.mk hb; clear ho hb hg hnew) | ((with_reducible refine gate_builtin (b := .append) (xs := #[.tmp 43, .tmp 45]) rfl ?_); refine Kd.N_append_rows k27 (w0 := wx) wx.heap.size rfl (.tmp 43) (.tmp 45) 23 27 (.agg #[.int .i64 0, .int .i64 0, .slice none 0 0, .slice none 0 0]) 64 rfl HU infoRX rfl (by decide) (by decide) (.slice A2_ c.f5.length a2_) c.f5 [(⟨1, 0, [], []⟩ : RX)] A3_ 1 a3_ (fun k_ => k_ < w.heap.size ∨ wx.heap.size ≤ k_) (fun k_ => w2_.heap.size ≤ k_) rfl rfl (Kd.N_below HO2.out HB3_.out) (Kd.N_F HO3.out) ?ho ?hf (HB2_.out.trans (below_cut HB3_.out HB2_.out.size)) (Nat.le_trans HB2_.out.size HB3_.out.size) ?hl ?_; (case ho => exact fun k hk => ⟨.inr (Nat.le_trans HB2_.out.size hk), fun e => by have h1_ := Kd.N_lt HO2.out k e.symm; omega⟩); (case hf => exact fun k hk => .inr (Nat.le_trans HB2_.out.size (Nat.le_trans HB3_.out.size hk))); (case hl => have h_ := HN.out.1; omega); intro v4 w4_ ho hb hg hat; obtain ⟨AX7, aX7, e4_⟩ := Kd.N_slice ho; subst e4_; have HO4_ := Aside0.mk ho; have HB4_ := Aside0.mk hb; have HE4_ := Aside0.mk (blk_deeper HEx.out hb HEL.out); have fz := blk_frozen HE4_.out 5; have x5_ := (blk_cell HE4_.out 5).trans rfl; clear ho hb hg hat))
        have HB7 : Aside0 (Below w.heap.size w (w4_.setCell ⟨bE, 5, none⟩ (.slice AX7 (c.f5.length + 1) aX7))) := ⟨(HBx.out.trans (below_cut HB4_.out (by have := HLx.out; have := HEL.out; omega))).setCell (p := ⟨bE, 5, none⟩) (Nat.le_of_lt HLx.out) _⟩
        have HC7 : Aside0 ((w4_.setCell ⟨bE, 5, none⟩ (.slice AX7 (c.f5.length + 1) aX7)).heap[w.heap.size]? = some (.cells #[.int .i64 c.f0, .int .i64 c.f1, .int .i64 c.f2, .int .i64 c.f3, .slice AO c.f4.length cO, .slice AE c.f5.length cE, .int .i64 c.f6.f0, .int .i64 c.f6.f1, .slice A1 c.f6.f2.length c1, .slice A2 c.f6.f3.length c2, .int .i64 c.f7.f0, .int .i64 c.f7.f1, .slice A3 c.f7.f2.length c3, .slice A4 c.f7.f3.length c4] 29 (0, 0))) := ⟨blk_far (blk_deeper HCx.out HB4_.out (by have := HLx.out; have := HEL.out; omega)) (p := ⟨bE, 5, none⟩) (Nat.ne_of_lt HLx.out) _⟩
        have HE7 : Aside0 ((w4_.setCell ⟨bE, 5, none⟩ (.slice AX7 (c.f5.length + 1) aX7)).heap[bE]? = some (.cells #[.int .i64 c.f0, .int .i64 c.f1, .int .i64 c.f2, .int .i64 c.f3, .slice AO c.f4.length cO, .slice AX7 (c.f5.length + 1) aX7, .int .i64 c.f6.f0, .int .i64 c.f6.f1, .slice A1 c.f6.f2.length c1, .slice A2 c.f6.f3.length c2, .int .i64 c.f7.f0, .int .i64 c.f7.f1, .slice A3 c.f7.f2.length c3, .slice A4 c.f7.f3.length c4] 29 (0, 0))) := ⟨blk_put HE4_.out 5 _ rfl⟩
        have HP7 : Aside0 (Kd.F k27 (w4_.setCell ⟨bE, 5, none⟩ (.slice AX7 (c.f5.length + 1) aX7)) (fun k => k < (w4_.setCell ⟨bE, 5, none⟩ (.slice AX7 (c.f5.length + 1) aX7)).heap.size) AX7 (c.f5 ++ [(⟨1, 0, [], []⟩ : RX)]).length (c.f5 ++ [(⟨1, 0, [], []⟩ : RX)])) := ⟨Kd.F_mono (Kd.F_bound (Kd.N_F (Kd.N_far HO4_.out (p := ⟨bE, 5, none⟩) (fun k hk e => by have := HLx.out; have := HEL.out; simp only at e; omega) _))) (fun k hk => hk.2)⟩
        have HQ7 : Aside0 ((c.f5 ++ [(⟨1, 0, [], []⟩ : RX)]).length ≤ aX7) := ⟨(Kd.N_reads' HO4_.out).2.1⟩
        have HD6 : Aside0 ((w4_.setCell ⟨bE, 5, none⟩ (.slice AX7 (c.f5.length + 1) aX7)).heap[bD]? = _) := ⟨blk_far (blk_deeper HD6x.out HB4_.out (by have := HD6l.out; have := HEL.out; omega)) (p := ⟨bE, 5, none⟩) (Nat.ne_of_lt HD6l.out) _⟩
        have HO6 : Aside0 (Kd.F k37 (w4_.setCell ⟨bE, 5, none⟩ (.slice AX7 (c.f5.length + 1) aX7)) (fun k => k < (w4_.setCell ⟨bE, 5, none⟩ (.slice AX7 (c.f5.length + 1) aX7)).heap.size) A8 (c.f4 ++ [oSelf 7, oMov 6 7]).length (c.f4 ++ [oSelf 7, oMov 6 7])) := ⟨Kd.F_mono (Kd.F_step HO6x.out (fun k hk hlt => by rw [Below.heap_setCell _ _ _ _ (show k ≠ bE by omega)]; exact HB4_.out.block k hlt)) (fun k hk => Nat.lt_of_lt_of_le hk (Nat.le_trans (Nat.le_of_lt HEL.out) ((below_cut HB4_.out (Nat.le_of_lt HEL.out)).setCell (p := ⟨bE, 5, none⟩) (Nat.le_refl _) _).size))⟩
        clear HO4_ HB4_ HE4_ fz x5_ HO3 HB3_ HO2 HB2_ HO1 HB1 y5 y5_ HBx HCx HEx HLx HEL HU HEF HD6x HD6l HO6x
        generalize (w4_.setCell ⟨bE, 5, none⟩ (.slice AX7 (c.f5.length + 1) aX7)) = w7 at HB7 HC7 HE7 HP7 HD6 HO6 ⊢
        skip
        have y0 := (blk_cell HC7.out 0).trans rfl
        have y1 := (blk_cell HC7.out 1).trans rfl
        have y2 := (blk_cell HC7.out 2).trans rfl
        have y3 := (blk_cell HC7.out 3).trans rfl
        have y4 := (blk_cell HC7.out 4).trans rfl
        have y5 := (blk_cell HC7.out 5).trans rfl
        have y6 := (blk_cell HC7.out 6).trans rfl
        have y7 := (blk_cell HC7.out 7).trans rfl
        have y8 := (blk_cell HC7.out 8).trans rfl
        have y9 := (blk_cell HC7.out 9).trans rfl
        have y10 := (blk_cell HC7.out 10).trans rfl
        have y11 := (blk_cell HC7.out 11).trans rfl
        have y12 := (blk_cell HC7.out 12).trans rfl
        have y13 := (blk_cell HC7.out 13).trans rfl
        obtain ⟨oE, hoE⟩ : ∃ ob, ob = Obj.cells #[.int .i64 c.f0, .int .i64 c.f1, .int .i64 c.f2, .int .i64 c.f3, .slice AO c.f4.length cO, .slice AE c.f5.length cE, .int .i64 c.f6.f0, .int .i64 c.f6.f1, .slice A1 c.f6.f2.length c1, .slice A2 c.f6.f3.length c2, .int .i64 c.f7.f0, .int .i64 c.f7.f1, .slice A3 c.f7.f2.length c3, .slice A4 c.f7.f3.length c4] 29 := ⟨_, rfl⟩
        have hal := below_alloc (Below.refl w7.heap.size w7) oE
        have HBx := Aside0.mk (below_step HB7.out hal)
        have HCx := Aside0.mk (blk_below HC7.out hal)
        have HEx : Aside0 ((w7.alloc oE).heap[w7.heap.size]? = some (.cells #[.int .i64 c.f0, .int .i64 c.f1, .int .i64 c.f2, .int .i64 c.f3, .slice AO c.f4.length cO, .slice AE c.f5.length cE, .int .i64 c.f6.f0, .int .i64 c.f6.f1, .slice A1 c.f6.f2.length c1, .slice A2 c.f6.f3.length c2, .int .i64 c.f7.f0, .int .i64 c.f7.f1, .slice A3 c.f7.f2.length c3, .slice A4 c.f7.f3.length c4] 29 (0, 0))) := ⟨by rw [hoE]; exact blk_new w7 _⟩
        have HLx : Aside0 (w.heap.size < w7.heap.size) := ⟨blk_lt HC7.out⟩
        have HD6x : Aside0 ((w7.alloc oE).heap[bD]? = _) := ⟨blk_below HD6.out hal⟩
        have HD6l : Aside0 (bD < w7.heap.size) := ⟨blk_lt HD6.out⟩
        have HO6x : Aside0 (Kd.F k37 (w7.alloc oE) (fun k => k < w7.heap.size) A8 (c.f4 ++ [oSelf 7, oMov 6 7]).length (c.f4 ++ [oSelf 7, oMov 6 7])) := ⟨Kd.F_below HO6.out hal⟩
        have HE7x : Aside0 ((w7.alloc oE).heap[bE]? = _) := ⟨blk_below HE7.out hal⟩
        have HE7l : Aside0 (bE < w7.heap.size) := ⟨blk_lt HE7.out⟩
        have HP7x : Aside0 (Kd.F k27 (w7.alloc oE) (fun k => k < w7.heap.size) AX7 (c.f5 ++ [(⟨1, 0, [], []⟩ : RX)]).length (c.f5 ++ [(⟨1, 0, [], []⟩ : RX)])) := ⟨Kd.F_below HP7.out hal⟩
        clear hal HB7 HC7 HD6 HO6 HE7 HP7
        go_upto_region 10 with fail
        rw [← hoE]
        clear hoE y0 y1 y2 y3 y4 y5 y6 y7 y8 y9 y10 y11 y12 y13
        generalize w7.alloc oE = wx at HBx HCx HEx HD6x HO6x HE7x HP7x ⊢
        generalize w7.heap.size = bF at HEx HLx HD6l HO6x HE7l HP7x ⊢
        have y5 := (blk_cell HCx.out 5).trans rfl
        have HEL : Aside0 (bF < wx.heap.size) := ⟨blk_lt HEx.out⟩
        have HU := Try.underlying23
        have HEF := Aside0.mk (Kd.F_below (Kd.C_F k27_heap HM.out.e) HBx.out)
        go_upto_region 11 with (first | ((with_reducible refine gate_dst (N := 49) rfl ?_); refine Kd.N_lit k27 _ 27 ?hg (N' := 49) ?hd (xs := ([] : List RX)) (inner := []) (ok := (fun k_ => k_ < w.heap.size ∨ wx.heap.size ≤ k_)) (okp := fun _ => False) ?hr ?hp (fun _ hk => hk.elim) (.inr (Nat.le_refl _)) (Below.refl _ _) (Nat.le_refl _) (by simp) ?_; (case hd => rfl); (case hg => rfl); (case hr => first | (go_simp; done) | (go_simp; rfl)); (case hp => exact Reps.none _ _); intro v1 w1_ ho hb hg hnew; have HO1 := Aside0.mk ho; have HB1 := Aside0.mk hb; have y5_ := pw_cell_below hb y5; clear ho hb hg hnew) | ((with_reducible refine gate_builtin (b := .append) (xs := #[.tmp 49, .tmp 51]) rfl ?_); refine Kd.N_append_rows k27 (w0 := wx) wx.heap.size rfl (.tmp 49) (.tmp 51) 23 27 (.agg #[.int .i64 0, .int .i64 0, .slice none 0 0, .slice none 0 0]) 64 rfl HU infoRX rfl (by decide) (by decide) v1 [] c.f5 AE c.f5.length cE (fun k_ => k_ < w.heap.size ∨ wx.heap.size ≤ k_) (fun k_ => k_ < w.heap.size) rfl rfl HO1.out (Kd.F_below HEF.out HB1.out) ?ho ?hf HB1.out HB1.out.size ?hl ?_; (case ho => exact fun k hk => ⟨.inl hk, fun e => by have h1_ := Kd.N_base HO1.out k e.symm; have h2_ := HLx.out; have h3_ := HEL.out; omega⟩); (case hf => exact fun k hk => .inr (Nat.le_trans HB1.out.size hk)); (case hl => have h_ := HN.out.1; simp; omega); intro v2 w2_ ho hb hg hat; rw [List.nil_append] at ho; obtain ⟨A2_, a2_, e2_⟩ := Kd.N_slice ho; subst e2_; have HO2 := Aside0.mk ho; have HB2_ := Aside0.mk hb; clear ho hb hg hat) | ((with_reducible refine gate_dst (N := 54) rfl ?_); refine Kd.N_lit k27 _ 27 ?hg (N' := 54) ?hd (xs := [(⟨-1, 0, [], []⟩ : RX)]) (inner := [.int .i64 (-1), .int .i64 0, .slice none 0 0, .slice none 0 0]) (ok := fun k_ => w2_.heap.size ≤ k_) (okp := fun _ => False) ?hr ?hp (fun _ hk => hk.elim) (Nat.le_refl _) (Below.refl _ _) (Nat.le_refl _) (by simp) ?_; (case hd => rfl); (case hg => rfl); (case hr => first | (go_simp; done) | (go_simp; rfl)); (case hp => exact Reps.front (mkRX (W := w2_) (ok := fun _ => False) (⟨-1, 0, [], []⟩ : RX) (Nat.le_refl 0) (fun W' _ => Kd.C_nil _ _) (Nat.le_refl 0) (fun W' _ => Kd.C_nil _ _)) rfl (Reps.none _ _) rfl); intro v3 w3_ ho hb hg hnew; obtain ⟨A3_, a3_, e3_⟩ := Kd.N_slice ho; subst e3_; have HO3 := Aside0.mk ho; have HB3_ := Aside0.mk hb; clear ho hb hg hnew) | ((with_reducible refine gate_builtin (b := .append) (xs := #[.tmp 52, .tmp 54]) rfl ?_); refine Kd.N_append_rows k27 (w0 := wx) wx.heap.size rfl (.tmp 52) (.tmp 54) 23 27 (.agg #[.int .i64 0, .int .i64 0, .slice none 0 0, .slice none 0 0]) 64 rfl HU infoRX rfl (by decide) (by decide) (.slice A2_ c.f5.length a2_) c.f5 [(⟨-1, 0, [], []⟩ : RX)] A3_ 1 a3_ (fun k_ => k_ < w.heap.size ∨ wx.heap.size ≤ k_) (fun k_ => w2_.heap.size ≤ k_) rfl rfl (Kd.N_below HO2.out HB3_.out) (Kd.N_F HO3.out) ?ho ?hf (HB2_.out.trans (below_cut HB3_.out HB2_.out.size)) (Nat.le_trans HB2_.out.size HB3_.out.size) ?hl ?_; (case ho => exact fun k hk => ⟨.inr (Nat.le_trans HB2_.out.size hk), fun e => by have h1_ := Kd.N_lt HO2.out k e.symm; omega⟩); (case hf => exact fun k hk => .inr (Nat.le_trans HB2_.out.size (Nat.le_trans HB3_.out.size hk))); (case hl => have h_ := HN.out.1; omega); intro v4 w4_ ho hb hg hat; obtain ⟨AX9, aX9, e4_⟩ := Kd.N_slice ho; subst e4_; have HO4_ := Aside0.mk ho; have HB4_ := Aside0.mk hb; have HE4_ := Aside0.mk (blk_deeper HEx.out hb HEL.out); have fz := blk_frozen HE4_.out 5; have x5_ := (blk_cell HE4_.out 5).trans rfl; clear ho hb hg hat))
        have HB9 : Aside0 (Below w.heap.size w (w4_.setCell ⟨bF, 5, none⟩ (.slice AX9 (c.f5.length + 1) aX9))) := ⟨(HBx.out.trans (below_cut HB4_.out (by have := HLx.out; have := HEL.out; omega))).setCell (p := ⟨bF, 5, none⟩) (Nat.le_of_lt HLx.out) _⟩
        have HC9 : Aside0 ((w4_.setCell ⟨bF, 5, none⟩ (.slice AX9 (c.f5.length + 1) aX9)).heap[w.heap.size]? = some (.cells #[.int .i64 c.f0, .int .i64 c.f1, .int .i64 c.f2, .int .i64 c.f3, .slice AO c.f4.length cO, .slice AE c.f5.length cE, .int .i64 c.f6.f0, .int .i64 c.f6.f1, .slice A1 c.f6.f2.length c1, .slice A2 c.f6.f3.length c2, .int .i64 c.f7.f0, .int .i64 c.f7.f1, .slice A3 c.f7.f2.length c3, .slice A4 c.f7.f3.length c4] 29 (0, 0))) := ⟨blk_far (blk_deeper HCx.out HB4_.out (by have := HLx.out; have := HEL.out; omega)) (p := ⟨bF, 5, none⟩) (Nat.ne_of_lt HLx.out) _⟩
        have HE9 : Aside0 ((w4_.setCell ⟨bF, 5, none⟩ (.slice AX9 (c.f5.length + 1) aX9)).heap[bF]? = some (.cells #[.int .i64 c.f0, .int .i64 c.f1, .int .i64 c.f2, .int .i64 c.f3, .slice AO c.f4.length cO, .slice AX9 (c.f5.length + 1) aX9, .int .i64 c.f6.f0, .int .i64 c.f6.f1, .slice A1 c.f6.f2.length c1, .slice A2 c.f6.f3.length c2, .int .i64 c.f7.f0, .int .i64 c.f7.f1, .slice A3 c.f7.f2.length c3, .slice A4 c.f7.f3.length c4] 29 (0, 0))) := ⟨blk_put HE4_.out 5 _ rfl⟩
        have HP9 : Aside0 (Kd.F k27 (w4_.setCell ⟨bF, 5, none⟩ (.slice AX9 (c.f5.length + 1) aX9)) (fun k => k < (w4_.setCell ⟨bF, 5, none⟩ (.slice AX9 (c.f5.length + 1) aX9)).heap.size) AX9 (c.f5 ++ [(⟨-1, 0, [], []⟩ : RX)]).length (c.f5 ++ [(⟨-1, 0, [], []⟩ : RX)])) := ⟨Kd.F_mono (Kd.F_bound (Kd.N_F (Kd.N_far HO4_.out (p := ⟨bF, 5, none⟩) (fun k hk e => by have := HLx.out; have := HEL.out; simp only at e; omega) _))) (fun k hk => hk.2)⟩
        have HQ9 : Aside0 ((c.f5 ++ [(⟨-1, 0, [], []⟩ : RX)]).length ≤ aX9) := ⟨(Kd.N_reads' HO4_.out).2.1⟩
        have HD6 : Aside0 ((w4_.setCell ⟨bF, 5, none⟩ (.slice AX9 (c.f5.length + 1) aX9)).heap[bD]? = _) := ⟨blk_far (blk_deeper HD6x.out HB4_.out (by have := HD6l.out; have := HEL.out; omega)) (p := ⟨bF, 5, none⟩) (Nat.ne_of_lt HD6l.out) _⟩
        have HO6 : Aside0 (Kd.F k37 (w4_.setCell ⟨bF, 5, none⟩ (.slice AX9 (c.f5.length + 1) aX9)) (fun k => k < (w4_.setCell ⟨bF, 5, none⟩ (.slice AX9 (c.f5.length + 1) aX9)).heap.size) A8 (c.f4 ++ [oSelf 7, oMov 6 7]).length (c.f4 ++ [oSelf 7, oMov 6 7])) := ⟨Kd.F_mono (Kd.F_step HO6x.out (fun k hk hlt => by rw [Below.heap_setCell _ _ _ _ (show k ≠ bF by omega)]; exact HB4_.out.block k hlt)) (fun k hk => Nat.lt_of_lt_of_le hk (Nat.le_trans (Nat.le_of_lt HEL.out) ((below_cut HB4_.out (Nat.le_of_lt HEL.out)).setCell (p := ⟨bF, 5, none⟩) (Nat.le_refl _) _).size))⟩
        have HE7 : Aside0 ((w4_.setCell ⟨bF, 5, none⟩ (.slice AX9 (c.f5.length + 1) aX9)).heap[bE]? = _) := ⟨blk_far (blk_deeper HE7x.out HB4_.out (by have := HE7l.out; have := HEL.out; omega)) (p := ⟨bF, 5, none⟩) (Nat.ne_of_lt HE7l.out) _⟩
        have HP7 : Aside0 (Kd.F k27 (w4_.setCell ⟨bF, 5, none⟩ (.slice AX9 (c.f5.length + 1) aX9)) (fun k => k < (w4_.setCell ⟨bF, 5, none⟩ (.slice AX9 (c.f5.length + 1) aX9)).heap.size) AX7 (c.f5 ++ [(⟨1, 0, [], []⟩ : RX)]).length (c.f5 ++ [(⟨1, 0, [], []⟩ : RX)])) := ⟨Kd.F_mono (Kd.F_step HP7x.out (fun k hk hlt => by rw [Below.heap_setCell _ _ _ _ (show k ≠ bF by omega)]; exact HB4_.out.block k hlt)) (fun k hk => Nat.lt_of_lt_of_le hk (Nat.le_trans (Nat.le_of_lt HEL.out) ((below_cut HB4_.out (Nat.le_of_lt HEL.out)).setCell (p := ⟨bF, 5, none⟩) (Nat.le_refl _) _).size))⟩
        clear HO4_ HB4_ HE4_ fz x5_ HO3 HB3_ HO2 HB2_ HO1 HB1 y5 y5_ HBx HCx HEx HLx HEL HU HEF HD6x HD6l HO6x HE7x HE7l HP7x
        generalize (w4_.setCell ⟨bF, 5, none⟩ (.slice AX9 (c.f5.length + 1) aX9)) = w9 at HB9 HC9 HE9 HP9 HD6 HO6 HE7 HP7 ⊢
        skip
        go_wp2_with fail
        refine (ordered_calls _).mono ?_
        rintro e wA ⟨rfl, hbA⟩
        have HBA := Aside0.mk (below_step HB9.out hbA)
        have HD6A := Aside0.mk (blk_below HD6.out hbA)
        have HE7A := Aside0.mk (blk_below HE7.out hbA)
        have HE9A := Aside0.mk (blk_below HE9.out hbA)
        have HO6A := Aside0.mk (Kd.F_below HO6.out hbA)
        have HP7A := Aside0.mk (Kd.F_below HP7.out hbA)
        have HP9A := Aside0.mk (Kd.F_below HP9.out hbA)
        clear hbA HB9 HC9 HD6 HE7 HE9 HO6 HP7 HP9
        have y0 := (blk_cell HD6A.out 0).trans rfl
        have y1 := (blk_cell HD6A.out 1).trans rfl
        have y2 := (blk_cell HD6A.out 2).trans rfl
        have y3 := (blk_cell HD6A.out 3).trans rfl
        have y4 := (blk_cell HD6A.out 4).trans rfl
        have y5 := (blk_cell HD6A.out 5).trans rfl
        have y6 := (blk_cell HD6A.out 6).trans rfl
        have y7 := (blk_cell HD6A.out 7).trans rfl
        have y8 := (blk_cell HD6A.out 8).trans rfl
        have y9 := (blk_cell HD6A.out 9).trans rfl
        have y10 := (blk_cell HD6A.out 10).trans rfl
        have y11 := (blk_cell HD6A.out 11).trans rfl
        have y12 := (blk_cell HD6A.out 12).trans rfl
        have y13 := (blk_cell HD6A.out 13).trans rfl
        have HMx : Aside0 (CMem wA (AO := A8) (cO := a8) (AE := AE) (cE := cE) (A1 := A1) (c1 := c1) (A2 := A2) (c2 := c2) (A3 := A3) (c3 := c3) (A4 := A4) (c4 := c4) (addO c)) := ⟨⟨Kd.F_now HO6A.out, HCA.out, (HM.out.below HBA.out).e, HM.out.ec, (HM.out.below HBA.out).ts, HM.out.tsc, (HM.out.below HBA.out).tm, HM.out.tmc, (HM.out.below HBA.out).bs, HM.out.bsc, (HM.out.below HBA.out).bm, HM.out.bmc⟩⟩
        have hcall := ocheck_calls wA (addO c) HMx.out ⟨by show (c.f4 ++ [oSelf 7, oMov 6 7]).length ≤ _; rw [List.length_append]; have := HN.out.2; simp; omega, HZ.out.e, HZ.out.x, HZ.out.tu, HZ.out.ba⟩
        rw [show (addO c).f4.length = c.f4.length + 2 from by unfold addO; simp] at hcall
        have HCALL := Aside0.mk hcall
        clear hcall
        go_wp2_with fail
        refine HCALL.out.mono ?_
        rintro e wB ⟨er, rfl, hc, hb_⟩
        have he : er = 0 := hc.zero (good_addO HG.out HN.out.2)
        subst he
        clear hc
        have HBB := Aside0.mk (below_step HBA.out hb_)
        have HE7B := Aside0.mk (blk_below HE7A.out hb_)
        have HE9B := Aside0.mk (blk_below HE9A.out hb_)
        have HP7B := Aside0.mk (Kd.F_below HP7A.out hb_)
        have HP9B := Aside0.mk (Kd.F_below HP9A.out hb_)
        clear hb_ HCALL HMx HBA HD6A HO6A HE7A HE9A HP7A HP9A y0 y1 y2 y3 y4 y5 y6 y7 y8 y9 y10 y11 y12 y13
        have hez : ((0 : Int) == 0) = true := by decide
        have y0 := (blk_cell HE7B.out 0).trans rfl
        have y1 := (blk_cell HE7B.out 1).trans rfl
        have y2 := (blk_cell HE7B.out 2).trans rfl
        have y3 := (blk_cell HE7B.out 3).trans rfl
        have y4 := (blk_cell HE7B.out 4).trans rfl
        have y5 := (blk_cell HE7B.out 5).trans rfl
        have y6 := (blk_cell HE7B.out 6).trans rfl
        have y7 := (blk_cell HE7B.out 7).trans rfl
        have y8 := (blk_cell HE7B.out 8).trans rfl
        have y9 := (blk_cell HE7B.out 9).trans rfl
        have y10 := (blk_cell HE7B.out 10).trans rfl
        have y11 := (blk_cell HE7B.out 11).trans rfl
        have y12 := (blk_cell HE7B.out 12).trans rfl
        have y13 := (blk_cell HE7B.out 13).trans rfl
        have HMx : Aside0 (CMem wB (AO := AO) (cO := cO) (AE := AX7) (cE := aX7) (A1 := A1) (c1 := c1) (A2 := A2) (c2 := c2) (A3 := A3) (c3 := c3) (A4 := A4) (c4 := c4) (addX c 1)) := ⟨⟨(HM.out.below HBB.out).o, HM.out.oc, Kd.F_now HP7B.out, HQ7.out, (HM.out.below HBB.out).ts, HM.out.tsc, (HM.out.below HBB.out).tm, HM.out.tmc, (HM.out.below HBB.out).bs, HM.out.bsc, (HM.out.below HBB.out).bm, HM.out.bmc⟩⟩
        have hcall := ocheck_calls wB (addX c 1) HMx.out ⟨HZ.out.o, by show (c.f5 ++ [(⟨1, 0, [], []⟩ : RX)]).length ≤ _; rw [List.length_append]; have := HN.out.1; simp; omega, fun x hx => (List.mem_append.1 hx).elim (fun h => HZ.out.x x h) (fun h => by rw [List.mem_singleton.1 h]; decide), HZ.out.tu, HZ.out.ba⟩
        rw [show (addX c 1).f5.length = c.f5.length + 1 from by unfold addX; simp] at hcall
        have HCALL := Aside0.mk hcall
        clear hcall
        go_wp2_with fail
        refine HCALL.out.mono ?_
        rintro e wC ⟨er, rfl, hc, hb_⟩
        have he : er = 0 := hc.zero (good_addX HG.out HN.out.1)
        subst he
        clear hc
        have HBC := Aside0.mk (below_step HBB.out hb_)
        have HE9C := Aside0.mk (blk_below HE9B.out hb_)
        have HP9C := Aside0.mk (Kd.F_below HP9B.out hb_)
        clear hb_ HCALL HMx HBB HE7B HP7B HE9B HP9B y0 y1 y2 y3 y4 y5 y6 y7 y8 y9 y10 y11 y12 y13
        have y0 := (blk_cell HE9C.out 0).trans rfl
        have y1 := (blk_cell HE9C.out 1).trans rfl
        have y2 := (blk_cell HE9C.out 2).trans rfl
        have y3 := (blk_cell HE9C.out 3).trans rfl
        have y4 := (blk_cell HE9C.out 4).trans rfl
        have y5 := (blk_cell HE9C.out 5).trans rfl
        have y6 := (blk_cell HE9C.out 6).trans rfl
        have y7 := (blk_cell HE9C.out 7).trans rfl
        have y8 := (blk_cell HE9C.out 8).trans rfl
        have y9 := (blk_cell HE9C.out 9).trans rfl
        have y10 := (blk_cell HE9C.out 10).trans rfl
        have y11 := (blk_cell HE9C.out 11).trans rfl
        have y12 := (blk_cell HE9C.out 12).trans rfl
        have y13 := (blk_cell HE9C.out 13).trans rfl
        have HMx : Aside0 (CMem wC (AO := AO) (cO := cO) (AE := AX9) (cE := aX9) (A1 := A1) (c1 := c1) (A2 := A2) (c2 := c2) (A3 := A3) (c3 := c3) (A4 := A4) (c4 := c4) (addX c (-1))) := ⟨⟨(HM.out.below HBC.out).o, HM.out.oc, Kd.F_now HP9C.out, HQ9.out, (HM.out.below HBC.out).ts, HM.out.tsc, (HM.out.below HBC.out).tm, HM.out.tmc, (HM.out.below HBC.out).bs, HM.out.bsc, (HM.out.below HBC.out).bm, HM.out.bmc⟩⟩
        have hcall := ocheck_calls wC (addX c (-1)) HMx.out ⟨HZ.out.o, by show (c.f5 ++ [(⟨-1, 0, [], []⟩ : RX)]).length ≤ _; rw [List.length_append]; have := HN.out.1; simp; omega, fun x hx => (List.mem_append.1 hx).elim (fun h => HZ.out.x x h) (fun h => by rw [List.mem_singleton.1 h]; decide), HZ.out.tu, HZ.out.ba⟩
        rw [show (addX c (-1)).f5.length = c.f5.length + 1 from by unfold addX; simp] at hcall
        have HCALL := Aside0.mk hcall
        clear hcall
        go_wp2_with fail
        refine HCALL.out.mono ?_
        rintro e wD ⟨er, rfl, hc, hb_⟩
        have he : er = 3 := hc.three (large_addX HG.out HN.out.1 (-1)) (err_addX HG.out (-1)) (end_addX c)
        subst he
        clear hc
        have HBD := Aside0.mk (below_step HBC.out hb_)
        clear hb_
        have he3 : ((3 : Int) == 3) = true := by decide
        go_wp2_with fail
        go_ret
        exact ⟨rfl, HBD.out⟩
end Go.Proofs.Ytecaemebamhamaa.Lv
