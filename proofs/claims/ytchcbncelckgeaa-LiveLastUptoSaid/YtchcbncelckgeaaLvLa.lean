/- The law function LiveLast walked. -/
import Derived.Test.YtchcbncelckgeaaLvLo
set_option linter.unusedVariables false
set_option linter.unusedSimpArgs false
namespace Go.Proofs.Ytchcbncelckgeaa.Lv
open Go.RowKit Go.Proofs.YtchcbncelckgeaaW.PrintWords Go.Proofs.YtchcbncelckgeaaW.PrintLast Go.Proofs.YtchcbncelckgeaaW.PrintMore Go.Proofs.Ytchcbncelckgeaa.PZ Go.Proofs.Ytchcbncelckgeaa.Hnd Go.Lib

theorem made_B (n : Nat) : (madeCells #[Value.bool false] n) = ((List.replicate n false).map Value.bool).toArray := by
  apply Array.ext'
  apply List.ext_getElem
  · simp [madeCells]
  · intro i h1 h2
    simp [madeCells, Nat.mod_one]
/-- The ends that have been told. -/
def EI (t : TT) (es : List Bool) (i j : Nat) : Prop := es.length = t.f3.length ∧ ∀ v : Nat, v < t.f3.length → ((∃ i' : Nat, i' < i ∧ (v : Int) ∈ asksAt t i' ∧ (rd_T105 (spansL t) (v : Int)).f1 = (i' : Int)) ∨ (∃ j' : Nat, j' < j ∧ (asksAt t i)[j']? = some (v : Int) ∧ (rd_T105 (spansL t) (v : Int)).f1 = (i : Int))) → es.getD v false = true
theorem EI.start (t : TT) : EI t (List.replicate t.f3.length false) 0 0 := ⟨by simp, fun v _ h => by
  rcases h with ⟨i', h, _⟩ | ⟨j', h, _⟩
  · exact absurd h (Nat.not_lt_zero _)
  · exact absurd h (Nat.not_lt_zero _)⟩
theorem EI.next {t : TT} {es : List Bool} {i : Nat} (h : EI t es i (asksAt t i).length) : EI t es (i + 1) 0 := ⟨h.1, fun v hv hh => by
  rcases hh with ⟨i', h1, h2, h3⟩ | ⟨j', h1, _⟩
  · by_cases e : i' = i
    · subst e
      obtain ⟨j, hj, hje⟩ := List.getElem_of_mem h2
      exact h.2 v hv (.inr ⟨j, hj, by rw [List.getElem?_eq_getElem hj, hje], h3⟩)
    · exact h.2 v hv (.inl ⟨i', by omega, h2, h3⟩)
  · exact absurd h1 (Nat.not_lt_zero _)⟩
theorem EI.step {t : TT} {es : List Bool} {i j : Nat} (h : EI t es i j) {v0 : Int} (hv : (asksAt t i)[j]? = some v0) (h0 : 0 ≤ v0) (h1 : v0 < (t.f3.length : Int)) : EI t (es.set v0.toNat (es.getD v0.toNat false || ((rd_T105 (spansL t) v0).f1 == (i : Int)))) i (j + 1) := by
  refine ⟨by rw [List.length_set]; exact h.1, fun v hvn hh => ?_⟩
  have hlt : v0.toNat < es.length := by have := h.1; omega
  rw [List.getD_eq_getElem?_getD, List.getElem?_set]
  by_cases e : v0.toNat = v
  · rw [if_pos e]
    first | rw [if_pos hlt] | skip
    show (es.getD v0.toNat false || ((rd_T105 (spansL t) v0).f1 == (i : Int))) = true
    have ev : v0 = (v : Int) := by omega
    rcases hh with hh | ⟨j', hj, hj1, hj2⟩
    · rw [e, h.2 v hvn (.inl hh)]; rfl
    · rw [ev, hj2]; simp
  · rw [if_neg e]
    have h2 : es.getD v false = true := by
      rcases hh with hh | ⟨j', hj, hj1, hj2⟩
      · exact h.2 v hvn (.inl hh)
      · by_cases ej : j' = j
        · subst ej
          rw [hv] at hj1
          injection hj1 with hj1
          omega
        · exact h.2 v hvn (.inr ⟨j', by omega, hj1, hj2⟩)
    rw [List.getD_eq_getElem?_getD] at h2
    exact h2
theorem cell_es {w : World} {g : Nat} {es : List Bool} {ty : TypeId} (h : w.heap[g]? = some (.cells (es.map Value.bool).toArray ty (0, 0))) (v : Nat) (hv : v < es.length) : w.cell? ⟨g, v, none⟩ = some (.bool (es.getD v false)) := by
  rw [blk_cell h, List.getElem?_toArray, List.getElem?_map, List.getElem?_eq_getElem hv, List.getD_eq_getElem?_getD, List.getElem?_eq_getElem hv]
  rfl
theorem blk_es {w : World} {g : Nat} {es : List Bool} {ty : TypeId} (h : w.heap[g]? = some (.cells (es.map Value.bool).toArray ty (0, 0))) (v : Nat) (b : Bool) : (w.setCell ⟨g, v, none⟩ (.bool b)).heap[g]? = some (.cells ((es.set v b).map Value.bool).toArray ty (0, 0)) := by
  have h_ := blk_set h v (.bool b)
  rw [List.map_set]
  simpa using h_
set_option maxHeartbeats 16000000 in
set_option maxRecDepth 100000 in
theorem last_calls (w : World) {A3 : Option Addr} {c3 : Nat} {A4 : Option Addr} {c4 : Nat} {A7 : Option Addr} {c7 : Nat} {A8 : Option Addr} {c8 : Nat} {A11 : Option Addr} {c11 : Nat} {A12 : Option Addr} {c12 : Nat} (t : TT) (hm : TMem w (A3 := A3) (c3 := c3) (A4 := A4) (c4 := c4) (A7 := A7) (c7 := c7) (A8 := A8) (c8 := c8) (A11 := A11) (c11 := c11) (A12 := A12) (c12 := c12) t) (hz : TSz t) :
    Calls Try.prog 14 #[.agg #[.int .i64 t.f0, .int .i64 t.f1, .int .i64 t.f2, .slice A3 t.f3.length c3, .slice A4 t.f4.length c4, .int .i64 t.f5.f0, .int .i64 t.f5.f1, .slice A7 t.f5.f2.length c7, .slice A8 t.f5.f3.length c8, .int .i64 t.f6.f0, .int .i64 t.f6.f1, .slice A11 t.f6.f2.length c11, .slice A12 t.f6.f3.length c12]] w fun e w' => e = .returned (.bool true) ∧ Below w.heap.size w w' := by
  obtain ⟨o1, ho1⟩ : ∃ ob, ob = Obj.cells #[.int .i64 t.f0, .int .i64 t.f1, .int .i64 t.f2, .slice A3 t.f3.length c3, .slice A4 t.f4.length c4, .int .i64 t.f5.f0, .int .i64 t.f5.f1, .slice A7 t.f5.f2.length c7, .slice A8 t.f5.f3.length c8, .int .i64 t.f6.f0, .int .i64 t.f6.f1, .slice A11 t.f6.f2.length c11, .slice A12 t.f6.f3.length c12] 97 := ⟨_, rfl⟩
  have hal := below_alloc (Below.refl w.heap.size w) o1
  have HT : Aside0 ((w.alloc o1).heap[w.heap.size]? = some (.cells #[.int .i64 t.f0, .int .i64 t.f1, .int .i64 t.f2, .slice A3 t.f3.length c3, .slice A4 t.f4.length c4, .int .i64 t.f5.f0, .int .i64 t.f5.f1, .slice A7 t.f5.f2.length c7, .slice A8 t.f5.f3.length c8, .int .i64 t.f6.f0, .int .i64 t.f6.f1, .slice A11 t.f6.f2.length c11, .slice A12 t.f6.f3.length c12] 97 (0, 0))) := ⟨by rw [ho1]; exact blk_new w _⟩
  have HB := Aside0.mk hal
  have HM := Aside0.mk hm
  have HZ := Aside0.mk hz
  clear hal hm hz
  go_enter Try.func14, Try.ntmps14
  go_wp2_with fail
  rw [← ho1]
  clear ho1
  generalize w.alloc o1 = wa at HT HB ⊢
  refine (lived_calls _).mono ?_
  rintro e w2 ⟨rfl, hb2⟩
  have HB2 := Aside0.mk (below_step HB.out hb2)
  have HT2 := Aside0.mk (blk_below HT.out hb2)
  clear hb2 HB HT
  have t0 := (blk_cell HT2.out 0).trans rfl
  have t1 := (blk_cell HT2.out 1).trans rfl
  have t2 := (blk_cell HT2.out 2).trans rfl
  have t3 := (blk_cell HT2.out 3).trans rfl
  have t4 := (blk_cell HT2.out 4).trans rfl
  have t5 := (blk_cell HT2.out 5).trans rfl
  have t6 := (blk_cell HT2.out 6).trans rfl
  have t7 := (blk_cell HT2.out 7).trans rfl
  have t8 := (blk_cell HT2.out 8).trans rfl
  have t9 := (blk_cell HT2.out 9).trans rfl
  have t10 := (blk_cell HT2.out 10).trans rfl
  have t11 := (blk_cell HT2.out 11).trans rfl
  have t12 := (blk_cell HT2.out 12).trans rfl
  go_wp2_with fail
  refine (spans_calls _ t (HM.out.below HB2.out) HZ.out).mono ?_
  rintro e w3 ⟨v, er, rfl, hiff, hbad, hok, hb3⟩
  have HB3 := Aside0.mk (below_step HB2.out hb3)
  have HT3 := Aside0.mk (blk_below HT2.out hb3)
  clear hb3 HB2 HT2 t0 t1 t2 t3 t4 t5 t6 t7 t8 t9 t10 t11 t12
  by_cases her : er = 0
  · subst her
    have HG : Aside0 (GoodT t.f2 t.f3 t.f4 t.f5 t.f6) := ⟨hiff.1 (by first | rfl | trivial)⟩
    obtain ⟨b2, rfl, hle, hc⟩ := hok (by first | rfl | trivial)
    have HC3 := Aside0.mk hc
    have he0 : ((0 : Int) != 0) = false := by decide
    have HNL : Aside0 (t.f3.length ≤ 300) := ⟨HG.out.n⟩
    have hmk : ∀ W : World, (Instr.makeSlice 43 (.int .i64 (t.f3.length : Int)) (.int .i64 (t.f3.length : Int))).run Try.prog W = .ok (.slice (some ⟨W.heap.size, 0, none⟩) t.f3.length t.f3.length) (W.alloc (.cells (madeCells #[.bool false] t.f3.length) 4)) := by
      intro W
      exact run_make_row' 43 4 (.bool false) 1 Try.underlying43 (by kernel_rfl) rfl .i64 .i64 t.f3.length (by have := HNL.out; omega) (by have := HNL.out; omega) W
    obtain ⟨oe, hoe⟩ : ∃ ob, ob = Obj.cells (madeCells #[.bool false] t.f3.length) 4 := ⟨_, rfl⟩
    have hal := below_alloc (Below.refl w3.heap.size w3) oe
    have HB4 := Aside0.mk (below_step HB3.out hal)
    have HT4 := Aside0.mk (blk_below HT3.out hal)
    have HC4 := Aside0.mk (blk_below HC3.out hal)
    have HE4 : Aside0 ((w3.alloc oe).heap[w3.heap.size]? = some (.cells ((List.replicate t.f3.length false).map Value.bool).toArray 4 (0, 0))) := ⟨by rw [hoe, made_B]; exact blk_new w3 _⟩
    have HNE : Aside0 (w.heap.size ≠ w3.heap.size ∧ b2 ≠ w3.heap.size ∧ w.heap.size ≤ w3.heap.size) := ⟨⟨by have := blk_lt HT3.out; omega, by have := blk_lt HC3.out; omega, HB3.out.size⟩⟩
    have t3 := (blk_cell HT4.out 3).trans rfl
    rw [hoe] at t3
    clear hiff hbad hok hc hle hal HB3 HT3 HC3
    go_wp2_with fail
    rw [← hoe]
    clear hoe t3 hmk
    generalize w3.alloc oe = w4 at HB4 HT4 HC4 HE4 ⊢
    generalize w3.heap.size = gE at HE4 HNE ⊢
    have HGL : Aside0 (gE < w4.heap.size) := ⟨blk_lt HE4.out⟩
    go_loopg [34] t.f3.length (fun kq v34 W => ∃ (i : Nat) (es : List Bool), v34 = .int .i64 (i : Int) ∧ Aside0 (i ≤ t.f3.length ∧ kq = t.f3.length - i) ∧ Aside0 (EI t es i 0) ∧ Aside0 (W.heap[gE]? = some (.cells (es.map Value.bool).toArray 4 (0, 0))) ∧ Aside0 (Kb gE w4 W))
    case atStart => exact ⟨0, _, rfl, ⟨Nat.zero_le _, by omega⟩, ⟨EI.start t⟩, HE4, ⟨Kb.refl _ _⟩⟩
    case round =>
      obtain ⟨i, es, rfl, HIQ, HEI, HE, HK⟩ := hrel
      have HBW : Aside0 (Below w.heap.size w wr) := ⟨HB4.out.trans (below_cut HK.out.below HNE.out.2.2)⟩
      by_cases hlt : i < t.f3.length
      · have hi0 : (0 : Int) ≤ (i : Int) := by omega
        have hi1 : (i : Int) < (t.f3.length : Int) := by omega
        have hdec : decide ((i : Int) < (t.f3.length : Int)) = true := decide_eq_true hi1
        have hdec2 : decide (i < t.f3.length) = true := decide_eq_true hlt
        have HLT := Aside0.mk hlt
        have HW64 : Aside0 (wrap64 ((i : Int) + 1) = ((i + 1 : Nat) : Int)) := ⟨by have := HNL.out; unfold wrap64; omega⟩
        obtain ⟨ad, eA, y0, y1, y2, y3, y4, y5, y6, y7⟩ := at_T103 (HM.out.below HBW.out).i (i : Int) (by omega) (by omega)
        subst eA
        rw [Int.toNat_natCast] at y0 y1 y2 y3 y4 y5 y6 y7
        obtain ⟨x, hx⟩ : ∃ x, x = rd_T103 t.f3 (i : Int) := ⟨_, rfl⟩
        rw [← hx] at y0 y1 y2 y3 y4 y5 y6 y7
        have HX := Aside0.mk hx
        obtain ⟨_, h2p, h3p, _⟩ := oneB_parts (HG.out.one i hlt)
        rw [← hx] at h2p h3p
        have H2P := Aside0.mk (And.intro h2p h3p)
        obtain ⟨KA, hKA⟩ := asksR_f x
        have HKA := Aside0.mk hKA
        obtain ⟨o9, ho9⟩ : ∃ ob, ob = Obj.cells #[.int .i64 x.f0, .int .i64 x.f1, .int .i64 x.f2, .int .i64 x.f3, .int .i64 x.f4, .int .i64 x.f5, .int .i64 x.f6.f0, .int .i64 x.f6.f1] 103 := ⟨_, rfl⟩
        have hal := below_alloc (Below.refl wr.heap.size wr) o9
        have HGr : Aside0 (gE < wr.heap.size) := ⟨blk_lt HE.out⟩
        have HK9 : Aside0 (Kb gE w4 (wr.alloc o9)) := ⟨HK.out.trans (Kb.of_below hal HGr.out)⟩
        have HE9 := Aside0.mk (blk_below HE.out hal)
        have HX9 : Aside0 ((wr.alloc o9).heap[wr.heap.size]? = some (.cells #[.int .i64 x.f0, .int .i64 x.f1, .int .i64 x.f2, .int .i64 x.f3, .int .i64 x.f4, .int .i64 x.f5, .int .i64 x.f6.f0, .int .i64 x.f6.f1] 103 (0, 0))) := ⟨by rw [ho9]; exact blk_new wr _⟩
        have HB9 := Aside0.mk (below_step HBW.out hal)
        have HG9 : Aside0 (gE < (wr.alloc o9).heap.size ∧ wr.heap.size ≠ gE) := ⟨⟨blk_lt HE9.out, by have := HGr.out; omega⟩⟩
        clear hx h2p h3p hKA hlt hal HE HK HBW HGr
        go_upto_region 10 with fail
        rw [← ho9]
        clear ho9 y0 y1 y2 y3 y4 y5 y6 y7
        generalize wr.alloc o9 = w9 at HK9 HE9 HX9 HB9 HG9 ⊢
        generalize wr.heap.size = b9 at HX9 HG9 ⊢
        have x0 := (blk_cell HX9.out 0).trans rfl
        have x1 := (blk_cell HX9.out 1).trans rfl
        have x2 := (blk_cell HX9.out 2).trans rfl
        have x3 := (blk_cell HX9.out 3).trans rfl
        have x4 := (blk_cell HX9.out 4).trans rfl
        have x5 := (blk_cell HX9.out 5).trans rfl
        have x6 := (blk_cell HX9.out 6).trans rfl
        have x7 := (blk_cell HX9.out 7).trans rfl
        go_wp2_with fail
        refine (backstitchref3_Asks.calls KA x.f0 x.f1 x.f2 x.f3 x.f4 x.f5 x.f6.f0 x.f6.f1 (asksL x) _ HKA.out).mono ?_
        rintro e wq ⟨vq, rfl, hRQ, hbq⟩
        obtain ⟨AQ, cq, rfl⟩ := Kd.R_slice hRQ
        have HRQ := Aside0.mk hRQ
        have HBQ := Aside0.mk hbq
        have HKq : Aside0 (Kb gE w4 wq) := ⟨HK9.out.trans (Kb.of_below hbq HG9.out.1)⟩
        have HEq := Aside0.mk (blk_below HE9.out hbq)
        have HBq := Aside0.mk (below_step HB9.out hbq)
        have x5 := (blk_cell (blk_below HX9.out hbq) 5).trans rfl
        clear hRQ hbq x0 x1 x2 x3 x4 x6 x7
        by_cases h5 : 0 ≤ x.f5
        · have hd5 : decide (0 ≤ x.f5) = true := decide_eq_true h5
          have hd5b : decide (x.f5 ≥ 0) = true := decide_eq_true h5
          have H5 := Aside0.mk h5
          have p5 : x.f5 < (t.f4.length : Int) := H2P.out.1
          obtain ⟨adE, Y2, d2, Y3, d3, eE, u0, u1, u2, u3, hyc2, hyK2, hyc3, hyK3⟩ := at_T31 (HM.out.below HBq.out).e x.f5 h5 p5
          subst eE
          have hyz : bigX (rd_T31 t.f4 x.f5) ≤ 1048576 := by
            have hlt : x.f5.toNat < t.f4.length := by omega
            have e_ : rd_T31 t.f4 x.f5 = t.f4[x.f5.toNat] := by unfold rd_T31; rw [List.getD_eq_getElem?_getD, List.getElem?_eq_getElem hlt]; rfl
            rw [e_]
            exact HZ.out.x _ (List.getElem_mem hlt)
          obtain ⟨y, hy⟩ : ∃ y, y = rd_T31 t.f4 x.f5 := ⟨_, rfl⟩
          rw [← hy] at u0 u1 u2 u3 hyc2 hyK2 hyc3 hyK3 hyz
          have HY := Aside0.mk hy
          obtain ⟨KV, hKV⟩ := valsR_f y (by omega)
          have HKV := Aside0.mk hKV
          have HVL : Aside0 ((valuesL y).length ≤ 1048576) := ⟨Nat.le_trans (valuesL_len y) hyz⟩
          have t4 := (blk_cell (HKq.out.blk HT4.out HNE.out.1) 4).trans rfl
          clear hKV hyz hy
          go_wp2_with fail
          refine (backstitchref3_Values.calls KV y.f0 y.f1 Y2 d2 y.f2 Y3 d3 y.f3 (valuesL y) _ hyK2 hyc2 hyK3 hyc3 HKV.out).mono ?_
          rintro e wv ⟨vv, rfl, hRV, hbv⟩
          obtain ⟨AV_, cv, rfl⟩ := Kd.R_slice hRV
          have HCV := Aside0.mk (Kd.R_reads' hRV).2.2
          have HRQ2 := Aside0.mk (Kd.R_below HRQ.out hbv)
          have HBQ2 := Aside0.mk (HBQ.out.trans (below_cut hbv HBQ.out.size))
          have HU := Try.underlying44
          clear hRV hbv x5 u0 u1 u2 u3 hyc2 hyK2 hyc3 hyK3 t4
          go_upto_region 13 with (first | ((with_reducible refine gate_builtin (b := .append) (xs := #[.tmp 44, .tmp 51]) rfl ?_); refine Kd.R_append_rows (Kd.int .i64) (w0 := w9) w9.heap.size rfl (.tmp 44) (.tmp 51) 44 3 (.int .i64 0) 8 rfl HU info3 rfl (by decide) (by decide) (.slice AQ (asksL x).length cq) (asksL x) (valuesL y) AV_ (valuesL y).length cv (fun _ => True) (fun _ => False) rfl rfl HRQ2.out HCV.out (fun _ _ h_ => h_) (fun _ h_ => h_.elim) (fun _ _ => trivial) HBQ2.out HBQ2.out.size ?hl ?_; (case hl => have h1_ := asks_len x; have h2_ := HVL.out; omega); intro v1 wn ho hb hg hat; have HO := Aside0.mk ho; have HBN := Aside0.mk hb; clear ho hb hg hat))
          obtain ⟨AN_, cn, en⟩ := Kd.R_slice HO.out
          subst en
          have HKn : Aside0 (Kb gE w4 wn) := ⟨HK9.out.trans (Kb.of_below HBN.out HG9.out.1)⟩
          have HEn := Aside0.mk (blk_below HE9.out HBN.out)
          have HFn : Aside0 ((Kd.int .i64).F wn (fun k => k ≠ gE) AN_ (asksL x ++ valuesL y).length (asksL x ++ valuesL y)) := ⟨R_apart HO.out HG9.out.1⟩
          clear HRQ HRQ2 HBQ HBQ2 HO HCV HKq HEq HBq h5 hd5 hd5b
          have HLA : Aside0 (asksAt t i = asksL x ++ valuesL y) := ⟨by unfold asksAt; rw [← HX.out, if_pos H5.out]; rw [HY.out]⟩
          have HFL := Aside0.mk (HFn.out)
          generalize hll : asksL x ++ valuesL y = l at HLA HFL ⊢
          have HLL := Aside0.mk hll
          clear hll
          have HLN : Aside0 (l.length ≤ 2000000) := ⟨by rw [← HLL.out]; have h1_ := asks_len x; have h2_ := HVL.out; rw [List.length_append]; omega⟩
          go_wp2_with fail
          go_loopg [55] l.length (fun kq v55 W => ∃ (j : Nat) (es : List Bool), v55 = .int .i64 (j : Int) ∧ Aside0 (j ≤ l.length ∧ kq = l.length - j) ∧ Aside0 (EI t es i j) ∧ Aside0 (W.heap[gE]? = some (.cells (es.map Value.bool).toArray 4 (0, 0))) ∧ Aside0 (Kb gE wn W))
          case atStart => exact ⟨0, _, rfl, ⟨Nat.zero_le _, by omega⟩, HEI, HEn, ⟨Kb.refl _ _⟩⟩
          case round =>
            obtain ⟨j, es2, rfl, HJQ, HEJ, HEE, HKJ⟩ := hrel
            by_cases hjt : j < l.length
            · have hj0 : (0 : Int) ≤ (j : Int) := by omega
              have hj1 : (j : Int) < (l.length : Int) := by omega
              obtain ⟨ad2, e2, hx2⟩ := Kd.at_int (Kd.F_now (Kd.F_step HFL.out (fun k hk hlt => HKJ.out.keep k hlt hk))) (j : Int) (by omega) (by omega)
              rw [Int.toNat_natCast, rdI hjt] at hx2
              subst e2
              have hdj : decide ((j : Int) < (l.length : Int)) = true := decide_eq_true hj1
              have hdj2 : decide (j < l.length) = true := decide_eq_true hjt
              have HJT := Aside0.mk hjt
              have HJ64 : Aside0 (wrap64 ((j : Int) + 1) = ((j + 1 : Nat) : Int)) := ⟨by have := HLN.out; unfold wrap64; omega⟩
              have hget : (asksAt t i)[j]? = some l[j] := by rw [HLA.out, List.getElem?_eq_getElem hjt]
              generalize l[j] = v at hx2 hget
              have hmem : v ∈ asksAt t i := List.mem_of_getElem? hget
              have hvr := asksAt_mem HG.out HLT.out v hmem
              have p0 : (0 : Int) ≤ v := hvr.1
              have p1 : v < (t.f3.length : Int) := hvr.2.2
              have hask := asked_in HG.out HLT.out hmem
              have HST := Aside0.mk (HEJ.out.step hget p0 p1)
              have HKW : Aside0 (Kb gE w4 wr) := ⟨HKn.out.trans HKJ.out⟩
              have hsc := sp_cell (HKW.out.blk HC4.out HNE.out.2.1) v p0 (by rw [spansL_len]; exact p1)
              obtain ⟨u0, u1⟩ := hsc
              rw [hask.1] at u0
              have hlo := hask.2.2
              generalize (rd_T105 (spansL t) v).f1 = tw at u1 hlo HST
              have hvn : (v != v) = false := bne_self_eq_false _
              have hlo2 : decide (tw < (i : Int)) = false := decide_eq_false (by omega)
              have hen : v.toNat < es2.length := by have := HEJ.out.1; omega
              have c0 := cell_es HEE.out v.toNat hen
              have hf0 := blk_frozen HEE.out v.toNat
              clear hjt hget hmem hvr hask hlo hen
              generalize es2.getD v.toNat false = bb at c0 HST
              cases bb with
              | true =>
                rw [Bool.true_or] at HST
                go_wp2_with fail
                generalize hwz : World.setCell wr _ _ = wz
                have HEz : Aside0 (wz.heap[gE]? = some (.cells ((es2.set v.toNat true).map Value.bool).toArray 4 (0, 0))) := ⟨by rw [← hwz]; exact blk_es HEE.out v.toNat true⟩
                have HKz : Aside0 (Kb gE wn wz) := ⟨HKJ.out.trans ⟨by rw [← hwz]; exact (Below.refl gE wr).setCell (p := ⟨gE, v.toNat, none⟩) (Nat.le_refl _) _, fun k hk hne => by rw [← hwz]; exact heap_setCell_other wr _ k _ hne⟩⟩
                clear hwz u0 u1 c0 hx2
                try clear hf0
                go_wp2_with fail
                go_roundg (l.length - (j + 1))
                case measure => have := HJQ.out; have := HJT.out; omega
                case rel => exact ⟨j + 1, _, by first | rfl | rw [HJ64.out], ⟨by have := HJT.out; omega, rfl⟩, HST, HEz, HKz⟩
              | false =>
                rw [Bool.false_or] at HST
                cases hq : (tw == (i : Int)) with
                | true =>
                  rw [hq] at HST
                  go_wp2_with fail
                  generalize hwz : World.setCell wr _ _ = wz
                  have HEz : Aside0 (wz.heap[gE]? = some (.cells ((es2.set v.toNat true).map Value.bool).toArray 4 (0, 0))) := ⟨by rw [← hwz]; exact blk_es HEE.out v.toNat true⟩
                  have HKz : Aside0 (Kb gE wn wz) := ⟨HKJ.out.trans ⟨by rw [← hwz]; exact (Below.refl gE wr).setCell (p := ⟨gE, v.toNat, none⟩) (Nat.le_refl _) _, fun k hk hne => by rw [← hwz]; exact heap_setCell_other wr _ k _ hne⟩⟩
                  clear hwz u0 u1 c0 hx2
                  try clear hf0
                  go_wp2_with fail
                  go_roundg (l.length - (j + 1))
                  case measure => have := HJQ.out; have := HJT.out; omega
                  case rel => exact ⟨j + 1, _, by first | rfl | rw [HJ64.out], ⟨by have := HJT.out; omega, rfl⟩, HST, HEz, HKz⟩
                | false =>
                  rw [hq] at HST
                  go_wp2_with fail
                  generalize hwz : World.setCell wr _ _ = wz
                  have HEz : Aside0 (wz.heap[gE]? = some (.cells ((es2.set v.toNat false).map Value.bool).toArray 4 (0, 0))) := ⟨by rw [← hwz]; exact blk_es HEE.out v.toNat false⟩
                  have HKz : Aside0 (Kb gE wn wz) := ⟨HKJ.out.trans ⟨by rw [← hwz]; exact (Below.refl gE wr).setCell (p := ⟨gE, v.toNat, none⟩) (Nat.le_refl _) _, fun k hk hne => by rw [← hwz]; exact heap_setCell_other wr _ k _ hne⟩⟩
                  clear hwz u0 u1 c0 hx2
                  try clear hf0
                  go_wp2_with fail
                  go_roundg (l.length - (j + 1))
                  case measure => have := HJQ.out; have := HJT.out; omega
                  case rel => exact ⟨j + 1, _, by first | rfl | rw [HJ64.out], ⟨by have := HJT.out; omega, rfl⟩, HST, HEz, HKz⟩
            · have e_ : j = l.length := by have := HJQ.out; omega
              subst e_
              have hdj : decide ((l.length : Int) < (l.length : Int)) = false := decide_eq_false (by omega)
              have hdj2 : decide (l.length < l.length) = false := decide_eq_false hjt
              have HKW : Aside0 (Kb gE w4 wr) := ⟨HKn.out.trans HKJ.out⟩
              have HEN : Aside0 (EI t es2 (i + 1) 0) := ⟨EI.next (by rw [HLA.out]; exact HEJ.out)⟩
              clear hjt
              go_wp2_with fail
              go_roundg (t.f3.length - (i + 1))
              case measure => have := HIQ.out; have := HLT.out; omega
              case rel => exact ⟨i + 1, _, by first | rfl | rw [HW64.out], ⟨by have := HLT.out; omega, rfl⟩, HEN, HEE, HKW⟩
        · have hd5 : decide (0 ≤ x.f5) = false := decide_eq_false h5
          have hd5b : decide (x.f5 ≥ 0) = false := decide_eq_false h5
          have H5 := Aside0.mk h5
          go_upto_region 13 with fail
          clear h5 hd5 hd5b x5
          have HLA : Aside0 (asksAt t i = asksL x) := ⟨by unfold asksAt; rw [← HX.out, if_neg (show ¬ 0 ≤ x.f5 from by have := H5.out; omega)]; exact List.append_nil _⟩
          have HFL := Aside0.mk (R_apart HRQ.out HG9.out.1)
          generalize hll : asksL x = l at HLA HFL ⊢
          have HLL := Aside0.mk hll
          clear hll
          have HLN : Aside0 (l.length ≤ 2000000) := ⟨by rw [← HLL.out]; have h1_ := asks_len x; omega⟩
          go_wp2_with fail
          go_loopg [55] l.length (fun kq v55 W => ∃ (j : Nat) (es : List Bool), v55 = .int .i64 (j : Int) ∧ Aside0 (j ≤ l.length ∧ kq = l.length - j) ∧ Aside0 (EI t es i j) ∧ Aside0 (W.heap[gE]? = some (.cells (es.map Value.bool).toArray 4 (0, 0))) ∧ Aside0 (Kb gE wq W))
          case atStart => exact ⟨0, _, rfl, ⟨Nat.zero_le _, by omega⟩, HEI, HEq, ⟨Kb.refl _ _⟩⟩
          case round =>
            obtain ⟨j, es2, rfl, HJQ, HEJ, HEE, HKJ⟩ := hrel
            by_cases hjt : j < l.length
            · have hj0 : (0 : Int) ≤ (j : Int) := by omega
              have hj1 : (j : Int) < (l.length : Int) := by omega
              obtain ⟨ad2, e2, hx2⟩ := Kd.at_int (Kd.F_now (Kd.F_step HFL.out (fun k hk hlt => HKJ.out.keep k hlt hk))) (j : Int) (by omega) (by omega)
              rw [Int.toNat_natCast, rdI hjt] at hx2
              subst e2
              have hdj : decide ((j : Int) < (l.length : Int)) = true := decide_eq_true hj1
              have hdj2 : decide (j < l.length) = true := decide_eq_true hjt
              have HJT := Aside0.mk hjt
              have HJ64 : Aside0 (wrap64 ((j : Int) + 1) = ((j + 1 : Nat) : Int)) := ⟨by have := HLN.out; unfold wrap64; omega⟩
              have hget : (asksAt t i)[j]? = some l[j] := by rw [HLA.out, List.getElem?_eq_getElem hjt]
              generalize l[j] = v at hx2 hget
              have hmem : v ∈ asksAt t i := List.mem_of_getElem? hget
              have hvr := asksAt_mem HG.out HLT.out v hmem
              have p0 : (0 : Int) ≤ v := hvr.1
              have p1 : v < (t.f3.length : Int) := hvr.2.2
              have hask := asked_in HG.out HLT.out hmem
              have HST := Aside0.mk (HEJ.out.step hget p0 p1)
              have HKW : Aside0 (Kb gE w4 wr) := ⟨HKq.out.trans HKJ.out⟩
              have hsc := sp_cell (HKW.out.blk HC4.out HNE.out.2.1) v p0 (by rw [spansL_len]; exact p1)
              obtain ⟨u0, u1⟩ := hsc
              rw [hask.1] at u0
              have hlo := hask.2.2
              generalize (rd_T105 (spansL t) v).f1 = tw at u1 hlo HST
              have hvn : (v != v) = false := bne_self_eq_false _
              have hlo2 : decide (tw < (i : Int)) = false := decide_eq_false (by omega)
              have hen : v.toNat < es2.length := by have := HEJ.out.1; omega
              have c0 := cell_es HEE.out v.toNat hen
              have hf0 := blk_frozen HEE.out v.toNat
              clear hjt hget hmem hvr hask hlo hen
              generalize es2.getD v.toNat false = bb at c0 HST
              cases bb with
              | true =>
                rw [Bool.true_or] at HST
                go_wp2_with fail
                generalize hwz : World.setCell wr _ _ = wz
                have HEz : Aside0 (wz.heap[gE]? = some (.cells ((es2.set v.toNat true).map Value.bool).toArray 4 (0, 0))) := ⟨by rw [← hwz]; exact blk_es HEE.out v.toNat true⟩
                have HKz : Aside0 (Kb gE wq wz) := ⟨HKJ.out.trans ⟨by rw [← hwz]; exact (Below.refl gE wr).setCell (p := ⟨gE, v.toNat, none⟩) (Nat.le_refl _) _, fun k hk hne => by rw [← hwz]; exact heap_setCell_other wr _ k _ hne⟩⟩
                clear hwz u0 u1 c0 hx2
                try clear hf0
                go_wp2_with fail
                go_roundg (l.length - (j + 1))
                case measure => have := HJQ.out; have := HJT.out; omega
                case rel => exact ⟨j + 1, _, by first | rfl | rw [HJ64.out], ⟨by have := HJT.out; omega, rfl⟩, HST, HEz, HKz⟩
              | false =>
                rw [Bool.false_or] at HST
                cases hq : (tw == (i : Int)) with
                | true =>
                  rw [hq] at HST
                  go_wp2_with fail
                  generalize hwz : World.setCell wr _ _ = wz
                  have HEz : Aside0 (wz.heap[gE]? = some (.cells ((es2.set v.toNat true).map Value.bool).toArray 4 (0, 0))) := ⟨by rw [← hwz]; exact blk_es HEE.out v.toNat true⟩
                  have HKz : Aside0 (Kb gE wq wz) := ⟨HKJ.out.trans ⟨by rw [← hwz]; exact (Below.refl gE wr).setCell (p := ⟨gE, v.toNat, none⟩) (Nat.le_refl _) _, fun k hk hne => by rw [← hwz]; exact heap_setCell_other wr _ k _ hne⟩⟩
                  clear hwz u0 u1 c0 hx2
                  try clear hf0
                  go_wp2_with fail
                  go_roundg (l.length - (j + 1))
                  case measure => have := HJQ.out; have := HJT.out; omega
                  case rel => exact ⟨j + 1, _, by first | rfl | rw [HJ64.out], ⟨by have := HJT.out; omega, rfl⟩, HST, HEz, HKz⟩
                | false =>
                  rw [hq] at HST
                  go_wp2_with fail
                  generalize hwz : World.setCell wr _ _ = wz
                  have HEz : Aside0 (wz.heap[gE]? = some (.cells ((es2.set v.toNat false).map Value.bool).toArray 4 (0, 0))) := ⟨by rw [← hwz]; exact blk_es HEE.out v.toNat false⟩
                  have HKz : Aside0 (Kb gE wq wz) := ⟨HKJ.out.trans ⟨by rw [← hwz]; exact (Below.refl gE wr).setCell (p := ⟨gE, v.toNat, none⟩) (Nat.le_refl _) _, fun k hk hne => by rw [← hwz]; exact heap_setCell_other wr _ k _ hne⟩⟩
                  clear hwz u0 u1 c0 hx2
                  try clear hf0
                  go_wp2_with fail
                  go_roundg (l.length - (j + 1))
                  case measure => have := HJQ.out; have := HJT.out; omega
                  case rel => exact ⟨j + 1, _, by first | rfl | rw [HJ64.out], ⟨by have := HJT.out; omega, rfl⟩, HST, HEz, HKz⟩
            · have e_ : j = l.length := by have := HJQ.out; omega
              subst e_
              have hdj : decide ((l.length : Int) < (l.length : Int)) = false := decide_eq_false (by omega)
              have hdj2 : decide (l.length < l.length) = false := decide_eq_false hjt
              have HKW : Aside0 (Kb gE w4 wr) := ⟨HKq.out.trans HKJ.out⟩
              have HEN : Aside0 (EI t es2 (i + 1) 0) := ⟨EI.next (by rw [HLA.out]; exact HEJ.out)⟩
              clear hjt
              go_wp2_with fail
              go_roundg (t.f3.length - (i + 1))
              case measure => have := HIQ.out; have := HLT.out; omega
              case rel => exact ⟨i + 1, _, by first | rfl | rw [HW64.out], ⟨by have := HLT.out; omega, rfl⟩, HEN, HEE, HKW⟩
      · have e_ : i = t.f3.length := by have := HIQ.out; omega
        subst e_
        have hdec : decide ((t.f3.length : Int) < (t.f3.length : Int)) = false := decide_eq_false (by omega)
        have hdec2 : decide (t.f3.length < t.f3.length) = false := decide_eq_false hlt
        have HTa := Aside0.mk (HK.out.blk HT4.out HNE.out.1)
        have HCa := Aside0.mk (HK.out.blk HC4.out HNE.out.2.1)
        clear hlt HIQ HK HT4 HC4 HE4 HB4 HGL
        go_wp2_with fail
        generalize wr = wb at HTa HCa HBW HE ⊢
        go_loopg [95] t.f3.length (fun kq v95 W => ∃ i : Nat, v95 = .int .i64 (i : Int) ∧ Aside0 (i ≤ t.f3.length ∧ kq = t.f3.length - i) ∧ Aside0 (Below wb.heap.size wb W))
        case atStart => exact ⟨0, rfl, ⟨Nat.zero_le _, by omega⟩, ⟨Below.refl _ _⟩⟩
        case round =>
          obtain ⟨i, rfl, HIQ, HK⟩ := hrel
          by_cases hlt : i < t.f3.length
          · have hi0 : (0 : Int) ≤ (i : Int) := by omega
            have hi1 : (i : Int) < (t.f3.length : Int) := by omega
            have hdec : decide ((i : Int) < (t.f3.length : Int)) = true := decide_eq_true hi1
            have hdec2 : decide (i < t.f3.length) = true := decide_eq_true hlt
            have HLT := Aside0.mk hlt
            have HW64 : Aside0 (wrap64 ((i : Int) + 1) = ((i + 1 : Nat) : Int)) := ⟨by have := HNL.out; unfold wrap64; omega⟩
            obtain ⟨u0, u1⟩ := sp_cell (blk_below HCa.out HK.out) (i : Int) hi0 (by rw [spansL_len]; exact hi1)
            rw [Int.toNat_natCast] at u0 u1
            have hends := ends_in HG.out hlt
            have hEI : (∃ i' : Nat, i' < t.f3.length ∧ ((i : Int)) ∈ asksAt t i' ∧ (rd_T105 (spansL t) (i : Int)).f1 = (i' : Int)) → es.getD i false = true := fun h => HEI.out.2 i hlt (.inl h)
            have HEN : Aside0 (∀ W, Below wb.heap.size wb W → W.cell? ⟨gE, i, none⟩ = some (.bool (es.getD i false))) := ⟨fun W hW => cell_es (blk_below HE.out hW) i (by have := HEI.out.1; omega)⟩
            generalize es.getD i false = bb at hEI HEN
            generalize (rd_T105 (spansL t) (i : Int)).f0 = fr at u0 hends
            generalize (rd_T105 (spansL t) (i : Int)).f1 = tw at u1 hends hEI
            obtain ⟨os, hos⟩ : ∃ ob, ob = Obj.cells #[.int .i64 fr, .int .i64 tw] 105 := ⟨_, rfl⟩
            have hal := below_alloc (Below.refl wr.heap.size wr) os
            have HK2 := Aside0.mk (below_step HK.out hal)
            have HS2 : Aside0 ((wr.alloc os).heap[wr.heap.size]? = some (.cells #[.int .i64 fr, .int .i64 tw] 105 (0, 0))) := ⟨by rw [hos]; exact blk_new wr _⟩
            clear hal hlt HK
            go_upto_region 24 with fail
            rw [← hos]
            clear hos u0 u1
            generalize wr.alloc os = ws at HK2 HS2 ⊢
            generalize wr.heap.size = bs at HS2 ⊢
            have s0 := (blk_cell HS2.out 0).trans rfl
            have s1 := (blk_cell HS2.out 1).trans rfl
            have t2 := (blk_cell (blk_below HTa.out HK2.out) 2).trans rfl
            have ce := HEN.out ws HK2.out
            by_cases hfr : 0 ≤ fr
            · have hd1 : decide (0 ≤ fr) = true := decide_eq_true hfr
              have hd1b : decide (fr ≥ 0) = true := decide_eq_true hfr
              cases bb with
              | true =>
                clear hends hEI hfr
                go_wp2_with fail
                go_roundg (t.f3.length - (i + 1))
                case measure => have := HIQ.out; have := HLT.out; omega
                case rel => exact ⟨i + 1, by first | rfl | rw [HW64.out], ⟨by have := HLT.out; omega, rfl⟩, HK2⟩
              | false =>
                have h3 : tw = (t.f3.length : Int) ∨ tw = t.f2 := by
                  rcases hends with h | ⟨_, _, _, h⟩
                  · omega
                  · rcases h with h | h
                    · exact absurd (hEI h) (by decide)
                    · exact h
                by_cases hn : tw = (t.f3.length : Int)
                · have hne1 : (tw != (t.f3.length : Int)) = false := by rw [hn]; exact bne_self_eq_false _
                  clear hends hEI hfr h3 hn
                  go_wp2_with fail
                  go_roundg (t.f3.length - (i + 1))
                  case measure => have := HIQ.out; have := HLT.out; omega
                  case rel => exact ⟨i + 1, by first | rfl | rw [HW64.out], ⟨by have := HLT.out; omega, rfl⟩, HK2⟩
                · have hne1 : (tw != (t.f3.length : Int)) = true := bne_iff_ne.mpr hn
                  have htl : tw = t.f2 := by rcases h3 with h | h; exact absurd h hn; exact h
                  have hne2 : (tw != t.f2) = false := by rw [htl]; exact bne_self_eq_false _
                  clear hends hEI hfr h3 hn htl
                  go_wp2_with fail
                  go_roundg (t.f3.length - (i + 1))
                  case measure => have := HIQ.out; have := HLT.out; omega
                  case rel => exact ⟨i + 1, by first | rfl | rw [HW64.out], ⟨by have := HLT.out; omega, rfl⟩, HK2⟩
            · have hd1 : decide (0 ≤ fr) = false := decide_eq_false hfr
              have hd1b : decide (fr ≥ 0) = false := decide_eq_false hfr
              clear hends hEI hfr
              go_wp2_with fail
              go_roundg (t.f3.length - (i + 1))
              case measure => have := HIQ.out; have := HLT.out; omega
              case rel => exact ⟨i + 1, by first | rfl | rw [HW64.out], ⟨by have := HLT.out; omega, rfl⟩, HK2⟩
          · have e_ : i = t.f3.length := by have := HIQ.out; omega
            subst e_
            have hdec : decide ((t.f3.length : Int) < (t.f3.length : Int)) = false := decide_eq_false (by omega)
            have hdec2 : decide (t.f3.length < t.f3.length) = false := decide_eq_false hlt
            have HBf := Aside0.mk (below_step HBW.out HK.out)
            clear hlt
            go_wp2_with fail
            refine (lived_calls _).mono ?_
            rintro e wl ⟨rfl, hbl⟩
            have HBl := Aside0.mk (below_step HBf.out hbl)
            clear hbl
            go_wp2_with fail
            go_ret
            exact ⟨rfl, HBl.out⟩
  · have he1 : (er != 0) = true := bne_iff_ne.mpr her
    have hv0 := hbad her
    subst hv0
    clear her hiff hbad hok
    go_wp2_with fail
    refine (lived_calls _).mono ?_
    rintro e wl ⟨rfl, hbl⟩
    have HBl := Aside0.mk (below_step HB3.out hbl)
    clear hbl
    go_wp2_with fail
    go_ret
    exact ⟨rfl, HBl.out⟩
end Go.Proofs.Ytchcbncelckgeaa.Lv
