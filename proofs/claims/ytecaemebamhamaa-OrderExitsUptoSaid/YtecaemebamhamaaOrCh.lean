/- Package order walked: Check. -/
import Derived.Test.YtecaemebamhamaaOrFo
set_option linter.unusedVariables false
set_option linter.unusedSimpArgs false
namespace Go.Proofs.Ytecaemebamhamaa.Lv
open Go.RowKit Go.Proofs.YtecaemebamhamaaW.PrintWords Go.Proofs.YtecaemebamhamaaW.PrintLast Go.Proofs.YtecaemebamhamaaW.PrintMore Go.Proofs.Ytecaemebamhamaa.PO Go.Proofs.Ytecaemebamhamaa.Hnd Go.Lib

theorem mkRX {W : World} {ok : Nat → Prop} (x : RX) {A2 : Option Addr} {c2 : Nat} (l2 : x.f2.length ≤ c2) (g2 : Kd.F k126 W ok A2 x.f2.length x.f2) {A3 : Option Addr} {c3 : Nat} (l3 : x.f3.length ≤ c3) (g3 : Kd.F k118 W ok A3 x.f3.length x.f3) : Kd.FK k27 W ok x [.int .i64 x.f0, .int .i64 x.f1, .slice A2 x.f2.length c2, .slice A3 x.f3.length c3] := fun W' hW => k27_mk W' x l2 (g2 W' hW) l3 (g3 W' hW)
theorem infoRX : (Try.prog.info? 27).map (fun i => (i.zero, i.size, i.bytes)) = some (some (.agg #[.int .i64 0, .int .i64 0, .slice none 0 0, .slice none 0 0]), 4, 64) := by kernel_rfl
theorem made_Bo (n : Nat) : (madeCells #[Value.bool false] n) = ((List.replicate n false).map Value.bool).toArray := by
  apply Array.ext
  · simp [madeCells]
  · intro i h1 h2
    simp [madeCells, Nat.mod_one]
set_option maxHeartbeats 16000000 in
set_option maxRecDepth 100000 in
theorem chk1_calls (w : World) (x : RX) (c : RC) (AO : Option Addr) (cO : Nat) (AE : Option Addr) (cE : Nat) (A1 : Option Addr) (c1 : Nat) (A2 : Option Addr) (c2 : Nat) (A3 : Option Addr) (c3 : Nat) (A4 : Option Addr) (c4 : Nat) (b1 : Nat) (h1 : w.heap[b1]? = some (.cells #[.int .i64 c.f0, .int .i64 c.f1, .int .i64 c.f2, .int .i64 c.f3, .slice AO c.f4.length cO, .slice AE c.f5.length cE, .int .i64 c.f6.f0, .int .i64 c.f6.f1, .slice A1 c.f6.f2.length c1, .slice A2 c.f6.f3.length c2, .int .i64 c.f7.f0, .int .i64 c.f7.f1, .slice A3 c.f7.f2.length c3, .slice A4 c.f7.f3.length c4] 29 (0, 0))) (X2 : Option Addr) (e2 : Nat) (X3 : Option Addr) (e3 : Nat) (hx2 : Kd.C k126 w X2 x.f2.length x.f2) (he2 : x.f2.length ≤ e2) (hx3 : Kd.C k118 w X3 x.f3.length x.f3) (he3 : x.f3.length ≤ e3) (hz : bigX x ≤ 2000000) :
    Calls Try.prog 34 #[.agg #[.int .i64 x.f0, .int .i64 x.f1, .slice X2 x.f2.length e2, .slice X3 x.f3.length e3], .pointer (some ⟨b1, 0, none⟩)] w fun e w' => e = .returned (.bool (!formedB x c.f3)) ∧ Below w.heap.size w w' := by
  obtain ⟨o1, ho1⟩ : ∃ ob, ob = Obj.cells #[.int .i64 x.f0, .int .i64 x.f1, .slice X2 x.f2.length e2, .slice X3 x.f3.length e3] 27 := ⟨_, rfl⟩
  have hal := below_alloc (Below.refl w.heap.size w) o1
  have HB := Aside0.mk hal
  have HX : Aside0 ((w.alloc o1).heap[w.heap.size]? = some (.cells #[.int .i64 x.f0, .int .i64 x.f1, .slice X2 x.f2.length e2, .slice X3 x.f3.length e3] 27 (0, 0))) := ⟨by rw [ho1]; exact blk_new w _⟩
  have HC := Aside0.mk (blk_below h1 hal)
  have HK := Aside0.mk (And.intro (Kd.C_below hx2 hal) (Kd.C_below hx3 hal))
  have HL := Aside0.mk (And.intro he2 he3)
  have HZ := Aside0.mk hz
  obtain ⟨b, hb⟩ : ∃ b, b = formedB x c.f3 := ⟨_, rfl⟩
  rw [← hb]
  have HBB := Aside0.mk hb
  clear hal h1 hx2 he2 hx3 he3 hz hb
  go_enter Try.func34, Try.ntmps34
  go_upto_region 1 with fail
  rw [← ho1]
  clear ho1
  generalize w.alloc o1 = wz at HB HX HC HK ⊢
  have x0 := (blk_cell HX.out 0).trans rfl
  have x1 := (blk_cell HX.out 1).trans rfl
  have x2 := (blk_cell HX.out 2).trans rfl
  have x3 := (blk_cell HX.out 3).trans rfl
  have y3 := (blk_cell HC.out 3).trans rfl
  go_wp2_with fail
  refine (formed_calls _ x c.f3 X2 e2 X3 e3 HK.out.1 HL.out.1 HK.out.2 HL.out.2 HZ.out).mono ?_
  rintro e w2 ⟨rfl, hb2⟩
  have HB2 := Aside0.mk (below_step HB.out hb2)
  clear hb2
  rw [← HBB.out]
  go_wp2_with fail
  go_ret
  exact ⟨rfl, HB2.out⟩
set_option maxHeartbeats 64000000 in
set_option maxRecDepth 100000 in
theorem ocheck_calls (w : World) {AO : Option Addr} {cO : Nat} {AE : Option Addr} {cE : Nat} {A1 : Option Addr} {c1 : Nat} {A2 : Option Addr} {c2 : Nat} {A3 : Option Addr} {c3 : Nat} {A4 : Option Addr} {c4 : Nat} (c : RC) (hm : CMem w (AO := AO) (cO := cO) (AE := AE) (cE := cE) (A1 := A1) (c1 := c1) (A2 := A2) (c2 := c2) (A3 := A3) (c3 := c3) (A4 := A4) (c4 := c4) c) (hz : CSz c) :
    Calls Try.prog 13 #[.agg #[.int .i64 c.f0, .int .i64 c.f1, .int .i64 c.f2, .int .i64 c.f3, .slice AO c.f4.length cO, .slice AE c.f5.length cE, .int .i64 c.f6.f0, .int .i64 c.f6.f1, .slice A1 c.f6.f2.length c1, .slice A2 c.f6.f3.length c2, .int .i64 c.f7.f0, .int .i64 c.f7.f1, .slice A3 c.f7.f2.length c3, .slice A4 c.f7.f3.length c4]] w fun e w' => ∃ er, e = .returned (.int .i64 er) ∧ ChkR c er ∧ Below w.heap.size w w' := by
  obtain ⟨o1, ho1⟩ : ∃ ob, ob = Obj.cells #[.int .i64 c.f0, .int .i64 c.f1, .int .i64 c.f2, .int .i64 c.f3, .slice AO c.f4.length cO, .slice AE c.f5.length cE, .int .i64 c.f6.f0, .int .i64 c.f6.f1, .slice A1 c.f6.f2.length c1, .slice A2 c.f6.f3.length c2, .int .i64 c.f7.f0, .int .i64 c.f7.f1, .slice A3 c.f7.f2.length c3, .slice A4 c.f7.f3.length c4] 29 := ⟨_, rfl⟩
  have hal := below_alloc (Below.refl w.heap.size w) o1
  have HB := Aside0.mk hal
  have HC : Aside0 ((w.alloc o1).heap[w.heap.size]? = some (.cells #[.int .i64 c.f0, .int .i64 c.f1, .int .i64 c.f2, .int .i64 c.f3, .slice AO c.f4.length cO, .slice AE c.f5.length cE, .int .i64 c.f6.f0, .int .i64 c.f6.f1, .slice A1 c.f6.f2.length c1, .slice A2 c.f6.f3.length c2, .int .i64 c.f7.f0, .int .i64 c.f7.f1, .slice A3 c.f7.f2.length c3, .slice A4 c.f7.f3.length c4] 29 (0, 0))) := ⟨by rw [ho1]; exact blk_new w _⟩
  have HM := Aside0.mk hm
  have HZ := Aside0.mk hz
  clear hal hm hz
  go_enter Try.func13, Try.ntmps13
  go_upto_region 1 with fail
  rw [← ho1]
  clear ho1
  generalize w.alloc o1 = wz at HB HC ⊢
  have y5 := (blk_cell HC.out 5).trans rfl
  have y6 := (blk_cell HC.out 6).trans rfl
  have y7 := (blk_cell HC.out 7).trans rfl
  have y8 := (blk_cell HC.out 8).trans rfl
  have y9 := (blk_cell HC.out 9).trans rfl
  have y10 := (blk_cell HC.out 10).trans rfl
  have y11 := (blk_cell HC.out 11).trans rfl
  have y12 := (blk_cell HC.out 12).trans rfl
  have y13 := (blk_cell HC.out 13).trans rfl
  have HU := Try.underlying23
  have HEF := Aside0.mk (Kd.F_below (Kd.C_F k27_heap HM.out.e) HB.out)
  have HK6 : Aside0 (Kd.FK k27 wz (fun k_ => k_ < w.heap.size) c.f6 [.int .i64 c.f6.f0, .int .i64 c.f6.f1, .slice A1 c.f6.f2.length c1, .slice A2 c.f6.f3.length c2]) := ⟨mkRX c.f6 HM.out.tsc (Kd.F_below (Kd.C_F k126_heap HM.out.ts) HB.out) HM.out.tmc (Kd.F_below (Kd.C_F k118_heap HM.out.tm) HB.out)⟩
  have HK7 : Aside0 (Kd.FK k27 wz (fun k_ => k_ < w.heap.size) c.f7 [.int .i64 c.f7.f0, .int .i64 c.f7.f1, .slice A3 c.f7.f2.length c3, .slice A4 c.f7.f3.length c4]) := ⟨mkRX c.f7 HM.out.bsc (Kd.F_below (Kd.C_F k126_heap HM.out.bs) HB.out) HM.out.bmc (Kd.F_below (Kd.C_F k118_heap HM.out.bm) HB.out)⟩
  obtain ⟨L, hL⟩ : ∃ L, L = exL c := ⟨_, rfl⟩
  have HLL := Aside0.mk hL
  clear hL
  go_upto_region 2 with (first | ((with_reducible refine gate_dst (N := 13) rfl ?_); refine Kd.N_lit k27 _ 27 ?hg (N' := 13) ?hd (xs := [c.f6, c.f7]) (inner := [.int .i64 c.f6.f0, .int .i64 c.f6.f1, .slice A1 c.f6.f2.length c1, .slice A2 c.f6.f3.length c2, .int .i64 c.f7.f0, .int .i64 c.f7.f1, .slice A3 c.f7.f2.length c3, .slice A4 c.f7.f3.length c4]) (ok := fun k_ => k_ < w.heap.size ∨ wz.heap.size ≤ k_) (okp := fun k_ => k_ < w.heap.size) ?hr ?hp (fun _ hk => .inl hk) (.inr (Nat.le_refl _)) (Below.refl _ _) (Nat.le_refl _) (by simp) ?_; (case hd => rfl); (case hg => rfl); (case hr => first | (go_simp; done) | (go_simp; rfl)); (case hp => exact Reps.front HK6.out rfl (Reps.front HK7.out rfl (Reps.none _ _) rfl) rfl); intro v7 w7 ho hb hg hnew; have HO7 := Aside0.mk ho; have HB7 := Aside0.mk hb; have y5_ := pw_cell_below hb y5; clear ho hb hg hnew) | ((with_reducible refine gate_builtin (b := .append) (xs := #[.tmp 13, .tmp 15]) rfl ?_); refine Kd.N_append_rows k27 (w0 := wz) wz.heap.size rfl (.tmp 13) (.tmp 15) 23 27 (.agg #[.int .i64 0, .int .i64 0, .slice none 0 0, .slice none 0 0]) 64 rfl HU infoRX rfl (by decide) (by decide) v7 [c.f6, c.f7] c.f5 AE c.f5.length cE (fun k_ => k_ < w.heap.size ∨ wz.heap.size ≤ k_) (fun k_ => k_ < w.heap.size) rfl rfl HO7.out (Kd.F_below HEF.out HB7.out) ?ho ?hf HB7.out HB7.out.size ?hl ?_; (case ho => exact fun k hk => ⟨.inl hk, fun e => by have h1_ := Kd.N_base HO7.out k e.symm; have h2_ := HB.out.size; omega⟩); (case hf => exact fun k hk => .inr (Nat.le_trans HB7.out.size hk)); (case hl => have h_ := HZ.out.e; simp; omega); intro v8 w8_ ho hb hg hat; have HO8 : Aside0 (Kd.N k27 27 w8_ wz.heap.size (fun k_ => k_ < w.heap.size ∨ wz.heap.size ≤ k_) v8 L) := ⟨by rw [HLL.out]; exact ho⟩; have HB8 := Aside0.mk hb; clear ho hb hg hat))
  obtain ⟨A8, a8, e8⟩ := Kd.N_slice HO8.out
  subst e8
  have HCL := Aside0.mk (Kd.N_reads' HO8.out).2.2
  have HC8 := Aside0.mk (blk_below HC.out HB8.out)
  have HW8 := Aside0.mk (below_step HB.out HB8.out)
  have HLZ : Aside0 (L.length ≤ 2000000) := ⟨by have := HZ.out.e; rw [HLL.out]; unfold exL; simp; omega⟩
  have HLX : Aside0 (∀ x ∈ L, bigX x ≤ 2000000) := ⟨fun x hx => by
    rw [HLL.out] at hx
    unfold exL at hx
    rcases List.mem_append.1 hx with h | h
    · rcases List.mem_cons.1 h with rfl | h
      · exact Nat.le_trans HZ.out.tu (by decide)
      · rw [List.mem_singleton.1 h]; exact Nat.le_trans HZ.out.ba (by decide)
    · exact Nat.le_trans (HZ.out.x x h) (by decide)⟩
  have HLA : Aside0 (largeC c = if (c.f4.length : Int) > 1500 then true else if (c.f5.length : Int) > 200 then true else if c.f3 > 300 then true else L.any largeB) := ⟨by rw [HLL.out]; rfl⟩
  clear HO7 HB7 HK6 HK7 HEF HU y5_ y5 y6 y7 y8 y9 y10 y11 y12 y13
  clear HB HC HO8 HB8
  have y3 := (blk_cell HC8.out 3).trans rfl
  have y4 := (blk_cell HC8.out 4).trans rfl
  have y5 := (blk_cell HC8.out 5).trans rfl
  by_cases h1 : (1500 : Int) < (c.f4.length : Int)
  · have H1 := Aside0.mk h1
    have d1 : decide ((1500 : Int) < (c.f4.length : Int)) = true := decide_eq_true h1
    have e1 : decide ((c.f4.length : Int) > (1500 : Int)) = true := d1
    have g1 : decide ((c.f4.length : Int) ≤ (1500 : Int)) = false := decide_eq_false (by omega)
    have k1 : decide ((1500 : Int) ≥ (c.f4.length : Int)) = false := g1
    clear h1
    have HVV : Aside0 (largeC c = true) := ⟨by rw [HLA.out, if_pos H1.out]⟩
    go_wp2_with fail
    go_ret
    exact ⟨_, rfl, .large HVV.out, HW8.out⟩
  · have H1 := Aside0.mk h1
    have d1 : decide ((1500 : Int) < (c.f4.length : Int)) = false := decide_eq_false h1
    have e1 : decide ((c.f4.length : Int) > (1500 : Int)) = false := d1
    have g1 : decide ((c.f4.length : Int) ≤ (1500 : Int)) = true := decide_eq_true (by omega)
    have k1 : decide ((1500 : Int) ≥ (c.f4.length : Int)) = true := g1
    clear h1
    by_cases h2 : (200 : Int) < (c.f5.length : Int)
    · have H2 := Aside0.mk h2
      have d2 : decide ((200 : Int) < (c.f5.length : Int)) = true := decide_eq_true h2
      have e2 : decide ((c.f5.length : Int) > (200 : Int)) = true := d2
      have g2 : decide ((c.f5.length : Int) ≤ (200 : Int)) = false := decide_eq_false (by omega)
      have k2 : decide ((200 : Int) ≥ (c.f5.length : Int)) = false := g2
      clear h2
      have HVV : Aside0 (largeC c = true) := ⟨by rw [HLA.out, if_neg H1.out, if_pos H2.out]⟩
      go_wp2_with fail
      go_ret
      exact ⟨_, rfl, .large HVV.out, HW8.out⟩
    · have H2 := Aside0.mk h2
      have d2 : decide ((200 : Int) < (c.f5.length : Int)) = false := decide_eq_false h2
      have e2 : decide ((c.f5.length : Int) > (200 : Int)) = false := d2
      have g2 : decide ((c.f5.length : Int) ≤ (200 : Int)) = true := decide_eq_true (by omega)
      have k2 : decide ((200 : Int) ≥ (c.f5.length : Int)) = true := g2
      clear h2
      by_cases h3 : 300 < c.f3
      · have H3 := Aside0.mk h3
        have d3 : decide (300 < c.f3) = true := decide_eq_true h3
        have e3 : decide (c.f3 > 300) = true := d3
        have g3 : decide (c.f3 ≤ 300) = false := decide_eq_false (by omega)
        have k3 : decide (300 ≥ c.f3) = false := g3
        clear h3
        have HVV : Aside0 (largeC c = true) := ⟨by rw [HLA.out, if_neg H1.out, if_neg H2.out, if_pos H3.out]⟩
        go_wp2_with fail
        go_ret
        exact ⟨_, rfl, .large HVV.out, HW8.out⟩
      · have H3 := Aside0.mk h3
        have d3 : decide (300 < c.f3) = false := decide_eq_false h3
        have e3 : decide (c.f3 > 300) = false := d3
        have g3 : decide (c.f3 ≤ 300) = true := decide_eq_true (by omega)
        have k3 : decide (300 ≥ c.f3) = true := g3
        clear h3
        have HLA2 : Aside0 (largeC c = L.any largeB) := ⟨by rw [HLA.out, if_neg H1.out, if_neg H2.out, if_neg H3.out]⟩
        clear HLA
        go_wp2_with fail
        have hs11 : ∀ x ∈ L, x.f3.length ≤ 2000000 := fun x hx => Nat.le_trans (Nat.le_mul_of_pos_left _ (by decide)) (Nat.le_trans (makes_len x.f3) (Nat.le_trans (Nat.le_add_left _ _) (HLX.out x hx)))
        refine (anyX_calls 30 #[] largeB (Go.Proofs.enters_of Try.func30 (by kernel_rfl) rfl) _ A8 a8 L HCL.out (fun W hW x hx A2 c2 A3 c3 h2 hc2 h3 hc3 => large_calls W x A2 c2 A3 c3 h3 (hs11 x hx)) HLZ.out).mono ?_
        clear hs11
        rintro e w9 ⟨rfl, hb9⟩
        have HC9 := Aside0.mk (blk_below HC8.out hb9)
        have HW9 := Aside0.mk (below_step HW8.out hb9)
        have HF9 : Aside0 (Kd.F k27 w9 (fun k => k < w9.heap.size) A8 L.length L) := ⟨Kd.C_F k27_heap (Kd.C_below HCL.out hb9)⟩
        clear hb9 HC8 HW8 HCL y3 y4 y5 d1 e1 g1 k1 d2 e2 g2 k2 d3 e3 g3 k3
        cases ha : L.any largeB with
        | true =>
          have HVV : Aside0 (largeC c = true) := ⟨HLA2.out.trans ha⟩
          clear ha
          go_wp2_with fail
          go_ret
          exact ⟨_, rfl, .large HVV.out, HW9.out⟩
        | false =>
        have HLG : Aside0 (largeC c = false) := ⟨HLA2.out.trans ha⟩
        clear ha HLA2
        have HSZ : Aside0 (c.f4.length ≤ 1500 ∧ c.f3 ≤ 300) := ⟨by have := H1.out; omega, by have := H3.out; omega⟩
        clear H1 H2 H3
        have y0 := (blk_cell HC9.out 0).trans rfl
        have y1 := (blk_cell HC9.out 1).trans rfl
        have y2 := (blk_cell HC9.out 2).trans rfl
        have y3 := (blk_cell HC9.out 3).trans rfl
        have y4 := (blk_cell HC9.out 4).trans rfl
        by_cases h1 : c.f3 < 0
        · have H1 := Aside0.mk h1
          have d1 : decide (c.f3 < 0) = true := decide_eq_true h1
          have e1 : decide (0 > c.f3) = true := d1
          have g1 : decide (0 ≤ c.f3) = false := decide_eq_false (by omega)
          have k1 : decide (c.f3 ≥ 0) = false := g1
          clear h1
          have HVV : Aside0 (badC c = true) := ⟨by unfold badC; rw [if_pos H1.out]⟩
          go_wp2_with fail
          go_ret
          exact ⟨_, rfl, .bad HLG.out HVV.out, HW9.out⟩
        · have H1 := Aside0.mk h1
          have d1 : decide (c.f3 < 0) = false := decide_eq_false h1
          have e1 : decide (0 > c.f3) = false := d1
          have g1 : decide (0 ≤ c.f3) = true := decide_eq_true (by omega)
          have k1 : decide (c.f3 ≥ 0) = true := g1
          clear h1
          by_cases h2 : c.f0 < 0
          · have H2 := Aside0.mk h2
            have d2 : decide (c.f0 < 0) = true := decide_eq_true h2
            have e2 : decide (0 > c.f0) = true := d2
            have g2 : decide (0 ≤ c.f0) = false := decide_eq_false (by omega)
            have k2 : decide (c.f0 ≥ 0) = false := g2
            clear h2
            have HVV : Aside0 (badC c = true) := ⟨by unfold badC; rw [if_neg H1.out, if_pos H2.out]⟩
            go_wp2_with fail
            go_ret
            exact ⟨_, rfl, .bad HLG.out HVV.out, HW9.out⟩
          · have H2 := Aside0.mk h2
            have d2 : decide (c.f0 < 0) = false := decide_eq_false h2
            have e2 : decide (0 > c.f0) = false := d2
            have g2 : decide (0 ≤ c.f0) = true := decide_eq_true (by omega)
            have k2 : decide (c.f0 ≥ 0) = true := g2
            clear h2
            by_cases h3 : c.f1 < 0
            · have H3 := Aside0.mk h3
              have d3 : decide (c.f1 < 0) = true := decide_eq_true h3
              have e3 : decide (0 > c.f1) = true := d3
              have g3 : decide (0 ≤ c.f1) = false := decide_eq_false (by omega)
              have k3 : decide (c.f1 ≥ 0) = false := g3
              clear h3
              have HVV : Aside0 (badC c = true) := ⟨by unfold badC; rw [if_neg H1.out, if_neg H2.out, if_pos H3.out]⟩
              go_wp2_with fail
              go_ret
              exact ⟨_, rfl, .bad HLG.out HVV.out, HW9.out⟩
            · have H3 := Aside0.mk h3
              have d3 : decide (c.f1 < 0) = false := decide_eq_false h3
              have e3 : decide (0 > c.f1) = false := d3
              have g3 : decide (0 ≤ c.f1) = true := decide_eq_true (by omega)
              have k3 : decide (c.f1 ≥ 0) = true := g3
              clear h3
              by_cases h4 : c.f2 < 0
              · have H4 := Aside0.mk h4
                have d4 : decide (c.f2 < 0) = true := decide_eq_true h4
                have e4 : decide (0 > c.f2) = true := d4
                have g4 : decide (0 ≤ c.f2) = false := decide_eq_false (by omega)
                have k4 : decide (c.f2 ≥ 0) = false := g4
                clear h4
                have HVV : Aside0 (badC c = true) := ⟨by unfold badC; rw [if_neg H1.out, if_neg H2.out, if_neg H3.out, if_pos H4.out]⟩
                go_wp2_with fail
                go_ret
                exact ⟨_, rfl, .bad HLG.out HVV.out, HW9.out⟩
              · have H4 := Aside0.mk h4
                have d4 : decide (c.f2 < 0) = false := decide_eq_false h4
                have e4 : decide (0 > c.f2) = false := d4
                have g4 : decide (0 ≤ c.f2) = true := decide_eq_true (by omega)
                have k4 : decide (c.f2 ≥ 0) = true := g4
                clear h4
                by_cases h5 : (c.f4.length : Int) < c.f2
                · have H5 := Aside0.mk h5
                  have d5 : decide ((c.f4.length : Int) < c.f2) = true := decide_eq_true h5
                  have e5 : decide (c.f2 > (c.f4.length : Int)) = true := d5
                  have g5 : decide (c.f2 ≤ (c.f4.length : Int)) = false := decide_eq_false (by omega)
                  have k5 : decide ((c.f4.length : Int) ≥ c.f2) = false := g5
                  clear h5
                  have HVV : Aside0 (badC c = true) := ⟨by unfold badC; rw [if_neg H1.out, if_neg H2.out, if_neg H3.out, if_neg H4.out]; exact decide_eq_true (by have := H5.out; omega)⟩
                  go_wp2_with fail
                  go_ret
                  exact ⟨_, rfl, .bad HLG.out HVV.out, HW9.out⟩
                · have H5 := Aside0.mk h5
                  have d5 : decide ((c.f4.length : Int) < c.f2) = false := decide_eq_false h5
                  have e5 : decide (c.f2 > (c.f4.length : Int)) = false := d5
                  have g5 : decide (c.f2 ≤ (c.f4.length : Int)) = true := decide_eq_true (by omega)
                  have k5 : decide ((c.f4.length : Int) ≥ c.f2) = true := g5
                  clear h5
                  have HBC : Aside0 (badC c = false) := ⟨by unfold badC; rw [if_neg H1.out, if_neg H2.out, if_neg H3.out, if_neg H4.out]; exact decide_eq_false (by have := H5.out; omega)⟩
                  have HP : Aside0 (0 ≤ c.f3 ∧ 0 ≤ c.f2 ∧ c.f2 ≤ (c.f4.length : Int)) := ⟨by have := H1.out; omega, by have := H4.out; omega, by have := H5.out; omega⟩
                  have e3_ : c.f3 = ((c.f3.toNat : Nat) : Int) := by have := HP.out.1; omega
                  have hmk : ∀ W : World, (Instr.makeSlice 73 (.int .i64 c.f3) (.int .i64 c.f3)).run Try.prog W = .ok (.slice (some ⟨W.heap.size, 0, none⟩) c.f3.toNat c.f3.toNat) (W.alloc (.cells (madeCells #[.bool false] c.f3.toNat) 4)) := by
                    intro W
                    have h_ := run_make_row' 73 4 (.bool false) 1 Try.underlying73 (by kernel_rfl) rfl .i64 .i64 c.f3.toNat (by have := HSZ.out.2; omega) (by have := HSZ.out.2; omega) W
                    rw [← e3_] at h_
                    exact h_
                  obtain ⟨o5, ho5⟩ : ∃ ob, ob = Obj.cells (madeCells #[.bool false] c.f3.toNat) 4 := ⟨_, rfl⟩
                  obtain ⟨o6, ho6⟩ : ∃ ob, ob = Obj.cells #[.bool false, .bool false, .bool false, .bool false, .bool false, .bool false, .bool false, .bool false, .slice (some ⟨w9.heap.size, 0, none⟩) c.f3.toNat c.f3.toNat] 75 := ⟨_, rfl⟩
                  have hs5 : (w9.alloc o5).heap.size = w9.heap.size + 1 := Array.size_push _
                  have hal := below_alloc (below_alloc (Below.refl w9.heap.size w9) o5) o6
                  have HWM : Aside0 (WM ((w9.alloc o5).alloc o6) (w9.heap.size + 1) w9.heap.size (regsAt c 0) (slotsAt c 0)) := ⟨by
                    refine ⟨rfl, ?_, ?_⟩
                    · have h_ := blk_new (w9.alloc o5) o6
                      rw [hs5] at h_
                      rw [h_, ho6, slotsAt_len]
                      rfl
                    · refine blk_alloc ?_ _
                      rw [blk_new w9 o5, ho5, made_Bo]
                      rfl⟩
                  have HC6 := Aside0.mk (blk_below HC9.out hal)
                  have HW6 := Aside0.mk (below_step HW9.out hal)
                  have HF6 := Aside0.mk (Kd.F_below HF9.out hal)
                  have HLB : Aside0 (w.heap.size < w9.heap.size) := ⟨blk_lt HC9.out⟩
                  clear hal hs5 e3_
                  go_upto_region 7 with fail
                  rw [← ho5, ← ho6]
                  clear ho5 ho6 hmk y0 y1 y2 y3 y4
                  clear d1 e1 g1 k1 d2 e2 g2 k2 d3 e3 g3 k3 d4 e4 g4 k4 d5 e5 g5 k5 H1 H2 H3 H4 H5 HC9 HW9 HF9
                  generalize (w9.alloc o5).alloc o6 = w6 at HWM HC6 HW6 HF6 ⊢
                  go_cut [5] (fun v5 wx => v5 = .bool (turnAt c 0) ∧ Aside0 (Below w6.heap.size w6 wx))
                  case first =>
                    have y2 := (blk_cell HC6.out 2).trans rfl
                    have y6 := (blk_cell HC6.out 6).trans rfl
                    have y7 := (blk_cell HC6.out 7).trans rfl
                    have y8 := (blk_cell HC6.out 8).trans rfl
                    have y9 := (blk_cell HC6.out 9).trans rfl
                    by_cases hz0 : c.f2 = 0
                    · have dz0 : (c.f2 == 0) = true := by rw [beq_iff_eq]; exact hz0
                      have HT0 : Aside0 (turnAt c 0 = bareB c.f6) := ⟨by unfold turnAt; rw [if_pos hz0]⟩
                      clear hz0
                      go_wp2_with fail
                      refine (order_bare.calls c.f6.f0 c.f6.f1 A1 c1 c.f6.f2 A2 c2 c.f6.f3 (bareB c.f6) _ (HM.out.below HW6.out).ts HM.out.tsc (HM.out.below HW6.out).tm HM.out.tmc (bare_f c.f6)).mono ?_
                      rintro e w7 ⟨rfl, hb7⟩
                      have HB7 := Aside0.mk hb7
                      clear hb7
                      go_wp2_with fail
                      go_meet
                      exact ⟨by rw [HT0.out], ⟨HB7.out⟩⟩
                    · have dz0 : (c.f2 == 0) = false := beq_eq_false_iff_ne.mpr hz0
                      have HT0 : Aside0 (turnAt c 0 = false) := ⟨by unfold turnAt; rw [if_neg hz0, if_neg (by have := HP.out.2.1; omega)]⟩
                      clear hz0
                      go_wp2_with fail
                      go_meet
                      exact ⟨by rw [HT0.out], ⟨Below.refl _ _⟩⟩
                  case rest =>
                  obtain ⟨rfl, HBc⟩ := hcut
                  have HWMc := Aside0.mk (HWM.out.below HBc.out)
                  have HCc := Aside0.mk (blk_below HC6.out HBc.out)
                  have HWc := Aside0.mk (below_step HW6.out HBc.out)
                  have HFc := Aside0.mk (Kd.F_below HF6.out HBc.out)
                  clear HWM HC6 HW6 HF6 HBc
                  have y4 := (blk_cell HCc.out 4).trans rfl
                  generalize w9.heap.size = gS at HWMc HLB HFc ⊢
                  obtain ⟨bW, hbW⟩ : ∃ bW, bW = gS + 1 := ⟨_, rfl⟩
                  rw [← hbW] at HWMc
                  have HBW : Aside0 (bW ≠ gS ∧ w.heap.size < bW ∧ w.heap.size < gS ∧ gS ≤ bW) := ⟨by have := HLB.out; omega⟩
                  clear HLB
                  rw [← hbW]
                  clear hbW
                  go_wp2_with fail
                  clear y4
                  go_loopg [5, 80] c.f4.length (fun kq v5 v80 W => ∃ i : Nat, v80 = .int .i64 (i : Int) ∧ v5 = .bool (turnAt c i) ∧ Aside0 (i ≤ c.f4.length ∧ kq = c.f4.length - i) ∧ Aside0 (∀ j : Nat, j < i → errAt c j = 0) ∧ Aside0 (WM W bW gS (regsAt c i) (slotsAt c i)) ∧ Aside0 (K2 bW gS wc W))
                  case atStart => exact ⟨0, rfl, rfl, ⟨Nat.zero_le _, by omega⟩, ⟨fun j h => absurd h (Nat.not_lt_zero _)⟩, HWMc, ⟨K2.refl _ _ _⟩⟩
                  case round =>
                    obtain ⟨i, rfl, rfl, HIQ, HA, HWi, HKi⟩ := hrel
                    have HBi : Aside0 (Below w.heap.size w wr) := ⟨HWc.out.trans (below_cut HKi.out.below (by have := HBW.out; omega))⟩
                    have HCi : Aside0 (wr.heap[w.heap.size]? = some (.cells #[.int .i64 c.f0, .int .i64 c.f1, .int .i64 c.f2, .int .i64 c.f3, .slice AO c.f4.length cO, .slice AE c.f5.length cE, .int .i64 c.f6.f0, .int .i64 c.f6.f1, .slice A1 c.f6.f2.length c1, .slice A2 c.f6.f3.length c2, .int .i64 c.f7.f0, .int .i64 c.f7.f1, .slice A3 c.f7.f2.length c3, .slice A4 c.f7.f3.length c4] 29 (0, 0))) := ⟨HKi.out.blk HCc.out (by have := HBW.out; omega) (by have := HBW.out; omega)⟩
                    by_cases hlt : i < c.f4.length
                    · have hi0 : (0 : Int) ≤ (i : Int) := by omega
                      have hi1 : (i : Int) < (c.f4.length : Int) := by omega
                      obtain ⟨ad, eA, z0, z1, z2, z3, z4, z5, z6, z7⟩ := at_T37 (HM.out.below HBi.out).o (i : Int) hi0 hi1
                      subst eA
                      rw [Int.toNat_natCast] at z0 z1 z2 z3 z4 z5 z6 z7
                      have hdec : decide ((i : Int) < (c.f4.length : Int)) = true := decide_eq_true hi1
                      have hdec2 : decide (i < c.f4.length) = true := decide_eq_true hlt
                      have HLT := Aside0.mk hlt
                      have HW64 : Aside0 (wrap64 ((i : Int) + 1) = ((i + 1 : Nat) : Int)) := ⟨by have := HSZ.out.1; unfold wrap64; omega⟩
                      obtain ⟨x, hx⟩ : ∃ x, x = rd_T37 c.f4 (i : Int) := ⟨_, rfl⟩
                      rw [← hx] at z0 z1 z2 z3 z4 z5 z6 z7
                      have HX := Aside0.mk hx
                      obtain ⟨o9, ho9⟩ : ∃ ob, ob = Obj.cells #[.int .i64 x.f0, .int .i64 x.f1, .int .i64 x.f2, .int .i64 x.f3, .int .i64 x.f4, .int .i64 x.f5, .int .i64 x.f6.f0, .int .i64 x.f6.f1] 37 := ⟨_, rfl⟩
                      have hal := below_alloc (Below.refl wr.heap.size wr) o9
                      have HX9 : Aside0 ((wr.alloc o9).heap[wr.heap.size]? = some (.cells #[.int .i64 x.f0, .int .i64 x.f1, .int .i64 x.f2, .int .i64 x.f3, .int .i64 x.f4, .int .i64 x.f5, .int .i64 x.f6.f0, .int .i64 x.f6.f1] 37 (0, 0))) := ⟨by rw [ho9]; exact blk_new wr _⟩
                      have HC9 := Aside0.mk (blk_below HCi.out hal)
                      have HB9 := Aside0.mk (below_step HBi.out hal)
                      have HW9 := Aside0.mk (HWi.out.below hal)
                      have HK9 := Aside0.mk (HKi.out.trans (K2.of_below (b := bW) (g := gS) hal (blk_lt HWi.out.blk)))
                      clear hx hal hlt HCi HBi HWi HKi
                      go_upto_region 11 with fail
                      rw [← ho9]
                      clear ho9 z0 z1 z2 z3 z4 z5 z6 z7
                      generalize wr.alloc o9 = w9 at HX9 HC9 HB9 HW9 HK9 ⊢
                      generalize wr.heap.size = bX at HX9 ⊢
                      have y0 := (blk_cell HC9.out 0).trans rfl
                      have y1 := (blk_cell HC9.out 1).trans rfl
                      have y2 := (blk_cell HC9.out 2).trans rfl
                      have y3 := (blk_cell HC9.out 3).trans rfl
                      have y4 := (blk_cell HC9.out 4).trans rfl
                      have y5 := (blk_cell HC9.out 5).trans rfl
                      have y6 := (blk_cell HC9.out 6).trans rfl
                      have y7 := (blk_cell HC9.out 7).trans rfl
                      have y8 := (blk_cell HC9.out 8).trans rfl
                      have y9 := (blk_cell HC9.out 9).trans rfl
                      have y10 := (blk_cell HC9.out 10).trans rfl
                      have y11 := (blk_cell HC9.out 11).trans rfl
                      have y12 := (blk_cell HC9.out 12).trans rfl
                      have y13 := (blk_cell HC9.out 13).trans rfl
                      have x0 := (blk_cell HX9.out 0).trans rfl
                      have x1 := (blk_cell HX9.out 1).trans rfl
                      have x2 := (blk_cell HX9.out 2).trans rfl
                      have x3 := (blk_cell HX9.out 3).trans rfl
                      have x4 := (blk_cell HX9.out 4).trans rfl
                      have x5 := (blk_cell HX9.out 5).trans rfl
                      have x6 := (blk_cell HX9.out 6).trans rfl
                      have x7 := (blk_cell HX9.out 7).trans rfl
                      by_cases h1 : 0 < c.f2
                      · have H1 := Aside0.mk h1
                        have d1 : decide (0 < c.f2) = true := decide_eq_true h1
                        have e1 : decide (c.f2 > 0) = true := d1
                        have g1 : decide (c.f2 ≤ 0) = false := decide_eq_false (by omega)
                        have k1 : decide (0 ≥ c.f2) = false := g1
                        clear h1
                        by_cases h2 : (i : Int) = c.f2
                        · have H2 := Aside0.mk h2
                          have d2 : ((i : Int) == c.f2) = true := by rw [beq_iff_eq]; exact h2
                          have e2 : ((i : Int) != c.f2) = false := by rw [bne, d2]; rfl
                          clear h2
                          have HTN : Aside0 (turnAt c (i + 1) = allW (regsAt c i) (slotsAt c i) c.f6) := ⟨by have h1_ := H1.out; have h2_ := H2.out; unfold turnAt; rw [if_neg (by omega), if_pos (by omega), show c.f2.toNat = i from by omega]⟩
                          go_wp2_with fail
                          refine (allw_calls _ bW gS (regsAt c i) (slotsAt c i) c.f6 A1 c1 A2 c2 HW9.out (HM.out.below HB9.out).ts HM.out.tsc (HM.out.below HB9.out).tm HM.out.tmc (Nat.le_trans HZ.out.tu (by decide))).mono ?_
                          rintro e wB ⟨rfl, hbB⟩
                          have HXB := Aside0.mk (blk_below HX9.out hbB)
                          have HCB := Aside0.mk (blk_below HC9.out hbB)
                          have HBB := Aside0.mk (below_step HB9.out hbB)
                          have HWB := Aside0.mk (HW9.out.below hbB)
                          have HKB := Aside0.mk (HK9.out.trans (K2.of_below (b := bW) (g := gS) hbB (blk_lt HW9.out.blk)))
                          clear hbB HX9 HC9 HB9 HW9 HK9 y0 y1 y2 y3 y4 y5 y6 y7 y8 y9 y10 y11 y12 y13 x0 x1 x2 x3 x4 x5 x6 x7
                          have y0 := (blk_cell HCB.out 0).trans rfl
                          have y1 := (blk_cell HCB.out 1).trans rfl
                          have y2 := (blk_cell HCB.out 2).trans rfl
                          have y3 := (blk_cell HCB.out 3).trans rfl
                          have y4 := (blk_cell HCB.out 4).trans rfl
                          have y5 := (blk_cell HCB.out 5).trans rfl
                          have y6 := (blk_cell HCB.out 6).trans rfl
                          have y7 := (blk_cell HCB.out 7).trans rfl
                          have y8 := (blk_cell HCB.out 8).trans rfl
                          have y9 := (blk_cell HCB.out 9).trans rfl
                          have y10 := (blk_cell HCB.out 10).trans rfl
                          have y11 := (blk_cell HCB.out 11).trans rfl
                          have y12 := (blk_cell HCB.out 12).trans rfl
                          have y13 := (blk_cell HCB.out 13).trans rfl
                          have x0 := (blk_cell HXB.out 0).trans rfl
                          have x1 := (blk_cell HXB.out 1).trans rfl
                          have x2 := (blk_cell HXB.out 2).trans rfl
                          have x3 := (blk_cell HXB.out 3).trans rfl
                          have x4 := (blk_cell HXB.out 4).trans rfl
                          have x5 := (blk_cell HXB.out 5).trans rfl
                          have x6 := (blk_cell HXB.out 6).trans rfl
                          have x7 := (blk_cell HXB.out 7).trans rfl
                          go_wp2_with fail
                          have hcall := order_calls wB bW gS w.heap.size (regsAt c i) (slotsAt c i) x c (some ad) cO AE cE A1 c1 A2 c2 A3 c3 A4 c4 HWB.out HBW.out.1 (by rw [slotsAt_len]; have := HP.out.1; omega) (by have := HBW.out; omega) (Kd.F_below (Kd.C_F k27_heap HM.out.e) HBB.out) (fun e he => Nat.le_trans (HZ.out.x e he) (by decide))
                          have HEE : Aside0 (errAt c i = ordE (regsAt c i) (slotsAt c i) c x) := ⟨by rw [HX.out]; rfl⟩
                          generalize ordE (regsAt c i) (slotsAt c i) c x = ee at hcall HEE
                          with_reducible refine hcall.mono ?_
                          clear hcall
                          rintro e wA ⟨rfl, hok, hkA⟩
                          have HKA := Aside0.mk (HKB.out.trans hkA)
                          have HOK := Aside0.mk hok
                          clear hok hkA
                          by_cases he : ee = 0
                          · subst he
                            have hed : ((0 : Int) != 0) = false := by decide
                            go_wp2_with fail
                            go_roundg (c.f4.length - (i + 1))
                            case measure => have := HIQ.out; have := HLT.out; omega
                            case rel =>
                              refine ⟨i + 1, by first | rfl | rw [HW64.out], by rw [HTN.out], ⟨by have := HLT.out; omega, rfl⟩, ⟨fun j hj => ?_⟩, ⟨?_⟩, HKA⟩
                              · by_cases e : j = i
                                · subst e; exact HEE.out
                                · exact HA.out j (by omega)
                              · rw [regsAt_succ c HLT.out, slotsAt_succ c HLT.out, ← HX.out]
                                exact HOK.out (by first | rfl | trivial)
                          · have hed : (ee != 0) = true := bne_iff_ne.mpr he
                            have HE := Aside0.mk he
                            clear he
                            go_wp2_with fail
                            go_ret
                            exact ⟨ee, rfl, .err i ee HLG.out HBC.out HLT.out HA.out HEE.out HE.out, HWc.out.trans (below_cut HKA.out.below (by have := HBW.out; omega))⟩
                        · have H2 := Aside0.mk h2
                          have d2 : ((i : Int) == c.f2) = false := beq_eq_false_iff_ne.mpr h2
                          have e2 : ((i : Int) != c.f2) = true := by rw [bne, d2]; rfl
                          clear h2
                          have HTN : Aside0 (turnAt c (i + 1) = turnAt c i) := ⟨by have h1_ := H1.out; have h2_ := H2.out; unfold turnAt; rw [if_neg (show ¬ c.f2 = 0 by omega), if_neg (show ¬ c.f2 = 0 by omega)]; by_cases hq : c.f2 < (i : Int); (rw [if_pos hq, if_pos (show c.f2 < ((i + 1 : Nat) : Int) by omega)]); (rw [if_neg hq, if_neg (show ¬ c.f2 < ((i + 1 : Nat) : Int) by omega)])⟩
                          go_wp2_with fail
                          have hcall := order_calls w9 bW gS w.heap.size (regsAt c i) (slotsAt c i) x c (some ad) cO AE cE A1 c1 A2 c2 A3 c3 A4 c4 HW9.out HBW.out.1 (by rw [slotsAt_len]; have := HP.out.1; omega) (by have := HBW.out; omega) (Kd.F_below (Kd.C_F k27_heap HM.out.e) HB9.out) (fun e he => Nat.le_trans (HZ.out.x e he) (by decide))
                          have HEE : Aside0 (errAt c i = ordE (regsAt c i) (slotsAt c i) c x) := ⟨by rw [HX.out]; rfl⟩
                          generalize ordE (regsAt c i) (slotsAt c i) c x = ee at hcall HEE
                          with_reducible refine hcall.mono ?_
                          clear hcall
                          rintro e wA ⟨rfl, hok, hkA⟩
                          have HKA := Aside0.mk (HK9.out.trans hkA)
                          have HOK := Aside0.mk hok
                          clear hok hkA
                          by_cases he : ee = 0
                          · subst he
                            have hed : ((0 : Int) != 0) = false := by decide
                            go_wp2_with fail
                            go_roundg (c.f4.length - (i + 1))
                            case measure => have := HIQ.out; have := HLT.out; omega
                            case rel =>
                              refine ⟨i + 1, by first | rfl | rw [HW64.out], by rw [HTN.out], ⟨by have := HLT.out; omega, rfl⟩, ⟨fun j hj => ?_⟩, ⟨?_⟩, HKA⟩
                              · by_cases e : j = i
                                · subst e; exact HEE.out
                                · exact HA.out j (by omega)
                              · rw [regsAt_succ c HLT.out, slotsAt_succ c HLT.out, ← HX.out]
                                exact HOK.out (by first | rfl | trivial)
                          · have hed : (ee != 0) = true := bne_iff_ne.mpr he
                            have HE := Aside0.mk he
                            clear he
                            go_wp2_with fail
                            go_ret
                            exact ⟨ee, rfl, .err i ee HLG.out HBC.out HLT.out HA.out HEE.out HE.out, HWc.out.trans (below_cut HKA.out.below (by have := HBW.out; omega))⟩
                      · have H1 := Aside0.mk h1
                        have d1 : decide (0 < c.f2) = false := decide_eq_false h1
                        have e1 : decide (c.f2 > 0) = false := d1
                        have g1 : decide (c.f2 ≤ 0) = true := decide_eq_true (by omega)
                        have k1 : decide (0 ≥ c.f2) = true := g1
                        clear h1
                        have HTN : Aside0 (turnAt c (i + 1) = turnAt c i) := ⟨by have h1_ := H1.out; have h0_ := HP.out.2.1; unfold turnAt; rw [if_pos (by omega), if_pos (by omega)]⟩
                        go_wp2_with fail
                        have hcall := order_calls w9 bW gS w.heap.size (regsAt c i) (slotsAt c i) x c (some ad) cO AE cE A1 c1 A2 c2 A3 c3 A4 c4 HW9.out HBW.out.1 (by rw [slotsAt_len]; have := HP.out.1; omega) (by have := HBW.out; omega) (Kd.F_below (Kd.C_F k27_heap HM.out.e) HB9.out) (fun e he => Nat.le_trans (HZ.out.x e he) (by decide))
                        have HEE : Aside0 (errAt c i = ordE (regsAt c i) (slotsAt c i) c x) := ⟨by rw [HX.out]; rfl⟩
                        generalize ordE (regsAt c i) (slotsAt c i) c x = ee at hcall HEE
                        with_reducible refine hcall.mono ?_
                        clear hcall
                        rintro e wA ⟨rfl, hok, hkA⟩
                        have HKA := Aside0.mk (HK9.out.trans hkA)
                        have HOK := Aside0.mk hok
                        clear hok hkA
                        by_cases he : ee = 0
                        · subst he
                          have hed : ((0 : Int) != 0) = false := by decide
                          go_wp2_with fail
                          go_roundg (c.f4.length - (i + 1))
                          case measure => have := HIQ.out; have := HLT.out; omega
                          case rel =>
                            refine ⟨i + 1, by first | rfl | rw [HW64.out], by rw [HTN.out], ⟨by have := HLT.out; omega, rfl⟩, ⟨fun j hj => ?_⟩, ⟨?_⟩, HKA⟩
                            · by_cases e : j = i
                              · subst e; exact HEE.out
                              · exact HA.out j (by omega)
                            · rw [regsAt_succ c HLT.out, slotsAt_succ c HLT.out, ← HX.out]
                              exact HOK.out (by first | rfl | trivial)
                        · have hed : (ee != 0) = true := bne_iff_ne.mpr he
                          have HE := Aside0.mk he
                          clear he
                          go_wp2_with fail
                          go_ret
                          exact ⟨ee, rfl, .err i ee HLG.out HBC.out HLT.out HA.out HEE.out HE.out, HWc.out.trans (below_cut HKA.out.below (by have := HBW.out; omega))⟩
                    · have e_ : i = c.f4.length := by have := HIQ.out; omega
                      subst e_
                      have hdec : decide ((c.f4.length : Int) < (c.f4.length : Int)) = false := decide_eq_false (by omega)
                      have hdec2 : decide (c.f4.length < c.f4.length) = false := decide_eq_false hlt
                      have HFi : Aside0 (Kd.F k27 wr (fun k => k < gS) A8 L.length L) := ⟨K2.F HKi.out (by have := HBW.out; omega) HFc.out⟩
                      clear hlt HIQ HKi HFc HCc HWc HWMc
                      skip
                      have y0 := (blk_cell HCi.out 0).trans rfl
                      have y1 := (blk_cell HCi.out 1).trans rfl
                      have y2 := (blk_cell HCi.out 2).trans rfl
                      have y3 := (blk_cell HCi.out 3).trans rfl
                      have y4 := (blk_cell HCi.out 4).trans rfl
                      have y5 := (blk_cell HCi.out 5).trans rfl
                      have y6 := (blk_cell HCi.out 6).trans rfl
                      have y7 := (blk_cell HCi.out 7).trans rfl
                      have y8 := (blk_cell HCi.out 8).trans rfl
                      have y9 := (blk_cell HCi.out 9).trans rfl
                      have y10 := (blk_cell HCi.out 10).trans rfl
                      have y11 := (blk_cell HCi.out 11).trans rfl
                      have y12 := (blk_cell HCi.out 12).trans rfl
                      have y13 := (blk_cell HCi.out 13).trans rfl
                      by_cases h1 : 0 < c.f2
                      · have H1 := Aside0.mk h1
                        have d1 : decide (0 < c.f2) = true := decide_eq_true h1
                        have e1 : decide (c.f2 > 0) = true := d1
                        have g1 : decide (c.f2 ≤ 0) = false := decide_eq_false (by omega)
                        have k1 : decide (0 ≥ c.f2) = false := g1
                        clear h1
                        by_cases h2 : c.f2 = (c.f4.length : Int)
                        · have H2 := Aside0.mk h2
                          have d2 : (c.f2 == (c.f4.length : Int)) = true := by rw [beq_iff_eq]; exact h2
                          have e2 : (c.f2 != (c.f4.length : Int)) = false := by rw [bne, d2]; rfl
                          clear h2
                          have HTB : Aside0 (turnB c = allW (regsAt c c.f4.length) (slotsAt c c.f4.length) c.f6) := ⟨by have h1_ := H1.out; have h2_ := H2.out; unfold turnB; rw [if_neg (by omega), show c.f2.toNat = c.f4.length from by omega]⟩
                          go_wp2_with fail
                          refine (allw_calls _ bW gS (regsAt c c.f4.length) (slotsAt c c.f4.length) c.f6 A1 c1 A2 c2 HWi.out (HM.out.below HBi.out).ts HM.out.tsc (HM.out.below HBi.out).tm HM.out.tmc (Nat.le_trans HZ.out.tu (by decide))).mono ?_
                          rintro e wB ⟨rfl, hbB⟩
                          have HCB := Aside0.mk (blk_below HCi.out hbB)
                          have HBB := Aside0.mk (below_step HBi.out hbB)
                          have HWB := Aside0.mk (HWi.out.below hbB)
                          have HFB := Aside0.mk (Kd.F_below HFi.out hbB)
                          clear hbB HCi HBi HWi HFi y0 y1 y2 y3 y4 y5 y6 y7 y8 y9 y10 y11 y12 y13
                          have y0 := (blk_cell HCB.out 0).trans rfl
                          have y1 := (blk_cell HCB.out 1).trans rfl
                          have y2 := (blk_cell HCB.out 2).trans rfl
                          have y3 := (blk_cell HCB.out 3).trans rfl
                          have y4 := (blk_cell HCB.out 4).trans rfl
                          have y5 := (blk_cell HCB.out 5).trans rfl
                          have y6 := (blk_cell HCB.out 6).trans rfl
                          have y7 := (blk_cell HCB.out 7).trans rfl
                          have y8 := (blk_cell HCB.out 8).trans rfl
                          have y9 := (blk_cell HCB.out 9).trans rfl
                          have y10 := (blk_cell HCB.out 10).trans rfl
                          have y11 := (blk_cell HCB.out 11).trans rfl
                          have y12 := (blk_cell HCB.out 12).trans rfl
                          have y13 := (blk_cell HCB.out 13).trans rfl
                          cases ht : allW (regsAt c c.f4.length) (slotsAt c c.f4.length) c.f6 with
                          | false =>
                            have HEN : Aside0 (endB c = false) := ⟨by unfold endB; rw [HTB.out, ht]; rfl⟩
                            first | rw [ht] | skip
                            clear ht
                            go_wp2_with fail
                            go_ret
                            exact ⟨_, rfl, .unformed HLG.out HBC.out HA.out HEN.out, HBB.out⟩
                          | true =>
                            have HT1 : Aside0 (turnB c = true) := ⟨HTB.out.trans ht⟩
                            first | rw [ht] | skip
                            clear ht HTB
                            go_wp2_with fail
                            refine (allw_calls _ bW gS (regsAt c c.f4.length) (slotsAt c c.f4.length) c.f7 A3 c3 A4 c4 HWB.out (HM.out.below HBB.out).bs HM.out.bsc (HM.out.below HBB.out).bm HM.out.bmc (Nat.le_trans HZ.out.ba (by decide))).mono ?_
                            rintro e wE ⟨rfl, hbE⟩
                            have HCE := Aside0.mk (blk_below HCB.out hbE)
                            have HBE := Aside0.mk (below_step HBB.out hbE)
                            have HFE := Aside0.mk (Kd.F_now (Kd.F_below HFB.out hbE))
                            clear hbE
                            cases hal_ : allW (regsAt c c.f4.length) (slotsAt c c.f4.length) c.f7 with
                            | false =>
                              have HEN : Aside0 (endB c = false) := ⟨by unfold endB; rw [HT1.out, hal_]; rfl⟩
                              clear hal_
                              go_wp2_with fail
                              go_ret
                              exact ⟨_, rfl, .unformed HLG.out HBC.out HA.out HEN.out, HBE.out⟩
                            | true =>
                              have HEN : Aside0 (endB c = !L.any (fun x => !formedB x c.f3)) := ⟨by unfold endB; rw [HT1.out, hal_, HLL.out, any_not]; rfl⟩
                              clear hal_
                              go_wp2_with fail
                              refine (anyX_calls 34 #[.pointer (some ⟨w.heap.size, 0, none⟩)] (fun x => !formedB x c.f3) (Go.Proofs.enters_of Try.func34 (by kernel_rfl) rfl) _ A8 a8 L HFE.out (fun W hW x hx X2 e2 X3 e3 h2 he2 h3 he3 => chk1_calls W x c AO cO AE cE A1 c1 A2 c2 A3 c3 A4 c4 _ (blk_below HCE.out hW) X2 e2 X3 e3 h2 he2 h3 he3 (HLX.out x hx)) HLZ.out).mono ?_
                              rintro e wF ⟨rfl, hbF⟩
                              have HBF := Aside0.mk (below_step HBE.out hbF)
                              clear hbF
                              cases hany : L.any (fun x => !formedB x c.f3) with
                              | true =>
                                have HE2 : Aside0 (endB c = false) := ⟨by rw [HEN.out, hany]; rfl⟩
                                clear hany
                                go_wp2_with fail
                                go_ret
                                exact ⟨_, rfl, .unformed HLG.out HBC.out HA.out HE2.out, HBF.out⟩
                              | false =>
                                have HE2 : Aside0 (endB c = true) := ⟨by rw [HEN.out, hany]; rfl⟩
                                clear hany
                                go_wp2_with fail
                                go_ret
                                exact ⟨_, rfl, .ok HLG.out HBC.out HA.out HE2.out, HBF.out⟩
                        · have H2 := Aside0.mk h2
                          have d2 : (c.f2 == (c.f4.length : Int)) = false := beq_eq_false_iff_ne.mpr h2
                          have e2 : (c.f2 != (c.f4.length : Int)) = true := by rw [bne, d2]; rfl
                          clear h2
                          have HTB : Aside0 (turnB c = turnAt c c.f4.length) := ⟨by have h1_ := H1.out; have h2_ := H2.out; have h0_ := HP.out.2.2; unfold turnAt turnB; rw [if_neg (by omega), if_neg (by omega), if_pos (by omega)]⟩
                          cases ht : turnAt c c.f4.length with
                          | false =>
                            have HEN : Aside0 (endB c = false) := ⟨by unfold endB; rw [HTB.out, ht]; rfl⟩
                            first | rw [ht] | skip
                            clear ht
                            go_wp2_with fail
                            go_ret
                            exact ⟨_, rfl, .unformed HLG.out HBC.out HA.out HEN.out, HBi.out⟩
                          | true =>
                            have HT1 : Aside0 (turnB c = true) := ⟨HTB.out.trans ht⟩
                            first | rw [ht] | skip
                            clear ht HTB
                            go_wp2_with fail
                            refine (allw_calls _ bW gS (regsAt c c.f4.length) (slotsAt c c.f4.length) c.f7 A3 c3 A4 c4 HWi.out (HM.out.below HBi.out).bs HM.out.bsc (HM.out.below HBi.out).bm HM.out.bmc (Nat.le_trans HZ.out.ba (by decide))).mono ?_
                            rintro e wE ⟨rfl, hbE⟩
                            have HCE := Aside0.mk (blk_below HCi.out hbE)
                            have HBE := Aside0.mk (below_step HBi.out hbE)
                            have HFE := Aside0.mk (Kd.F_now (Kd.F_below HFi.out hbE))
                            clear hbE
                            cases hal_ : allW (regsAt c c.f4.length) (slotsAt c c.f4.length) c.f7 with
                            | false =>
                              have HEN : Aside0 (endB c = false) := ⟨by unfold endB; rw [HT1.out, hal_]; rfl⟩
                              clear hal_
                              go_wp2_with fail
                              go_ret
                              exact ⟨_, rfl, .unformed HLG.out HBC.out HA.out HEN.out, HBE.out⟩
                            | true =>
                              have HEN : Aside0 (endB c = !L.any (fun x => !formedB x c.f3)) := ⟨by unfold endB; rw [HT1.out, hal_, HLL.out, any_not]; rfl⟩
                              clear hal_
                              go_wp2_with fail
                              refine (anyX_calls 34 #[.pointer (some ⟨w.heap.size, 0, none⟩)] (fun x => !formedB x c.f3) (Go.Proofs.enters_of Try.func34 (by kernel_rfl) rfl) _ A8 a8 L HFE.out (fun W hW x hx X2 e2 X3 e3 h2 he2 h3 he3 => chk1_calls W x c AO cO AE cE A1 c1 A2 c2 A3 c3 A4 c4 _ (blk_below HCE.out hW) X2 e2 X3 e3 h2 he2 h3 he3 (HLX.out x hx)) HLZ.out).mono ?_
                              rintro e wF ⟨rfl, hbF⟩
                              have HBF := Aside0.mk (below_step HBE.out hbF)
                              clear hbF
                              cases hany : L.any (fun x => !formedB x c.f3) with
                              | true =>
                                have HE2 : Aside0 (endB c = false) := ⟨by rw [HEN.out, hany]; rfl⟩
                                clear hany
                                go_wp2_with fail
                                go_ret
                                exact ⟨_, rfl, .unformed HLG.out HBC.out HA.out HE2.out, HBF.out⟩
                              | false =>
                                have HE2 : Aside0 (endB c = true) := ⟨by rw [HEN.out, hany]; rfl⟩
                                clear hany
                                go_wp2_with fail
                                go_ret
                                exact ⟨_, rfl, .ok HLG.out HBC.out HA.out HE2.out, HBF.out⟩
                      · have H1 := Aside0.mk h1
                        have d1 : decide (0 < c.f2) = false := decide_eq_false h1
                        have e1 : decide (c.f2 > 0) = false := d1
                        have g1 : decide (c.f2 ≤ 0) = true := decide_eq_true (by omega)
                        have k1 : decide (0 ≥ c.f2) = true := g1
                        clear h1
                        have HTB : Aside0 (turnB c = turnAt c c.f4.length) := ⟨by have h1_ := H1.out; have h0_ := HP.out.2.1; unfold turnAt turnB; rw [if_pos (by omega), if_pos (by omega)]⟩
                        cases ht : turnAt c c.f4.length with
                        | false =>
                          have HEN : Aside0 (endB c = false) := ⟨by unfold endB; rw [HTB.out, ht]; rfl⟩
                          first | rw [ht] | skip
                          clear ht
                          go_wp2_with fail
                          go_ret
                          exact ⟨_, rfl, .unformed HLG.out HBC.out HA.out HEN.out, HBi.out⟩
                        | true =>
                          have HT1 : Aside0 (turnB c = true) := ⟨HTB.out.trans ht⟩
                          first | rw [ht] | skip
                          clear ht HTB
                          go_wp2_with fail
                          refine (allw_calls _ bW gS (regsAt c c.f4.length) (slotsAt c c.f4.length) c.f7 A3 c3 A4 c4 HWi.out (HM.out.below HBi.out).bs HM.out.bsc (HM.out.below HBi.out).bm HM.out.bmc (Nat.le_trans HZ.out.ba (by decide))).mono ?_
                          rintro e wE ⟨rfl, hbE⟩
                          have HCE := Aside0.mk (blk_below HCi.out hbE)
                          have HBE := Aside0.mk (below_step HBi.out hbE)
                          have HFE := Aside0.mk (Kd.F_now (Kd.F_below HFi.out hbE))
                          clear hbE
                          cases hal_ : allW (regsAt c c.f4.length) (slotsAt c c.f4.length) c.f7 with
                          | false =>
                            have HEN : Aside0 (endB c = false) := ⟨by unfold endB; rw [HT1.out, hal_]; rfl⟩
                            clear hal_
                            go_wp2_with fail
                            go_ret
                            exact ⟨_, rfl, .unformed HLG.out HBC.out HA.out HEN.out, HBE.out⟩
                          | true =>
                            have HEN : Aside0 (endB c = !L.any (fun x => !formedB x c.f3)) := ⟨by unfold endB; rw [HT1.out, hal_, HLL.out, any_not]; rfl⟩
                            clear hal_
                            go_wp2_with fail
                            refine (anyX_calls 34 #[.pointer (some ⟨w.heap.size, 0, none⟩)] (fun x => !formedB x c.f3) (Go.Proofs.enters_of Try.func34 (by kernel_rfl) rfl) _ A8 a8 L HFE.out (fun W hW x hx X2 e2 X3 e3 h2 he2 h3 he3 => chk1_calls W x c AO cO AE cE A1 c1 A2 c2 A3 c3 A4 c4 _ (blk_below HCE.out hW) X2 e2 X3 e3 h2 he2 h3 he3 (HLX.out x hx)) HLZ.out).mono ?_
                            rintro e wF ⟨rfl, hbF⟩
                            have HBF := Aside0.mk (below_step HBE.out hbF)
                            clear hbF
                            cases hany : L.any (fun x => !formedB x c.f3) with
                            | true =>
                              have HE2 : Aside0 (endB c = false) := ⟨by rw [HEN.out, hany]; rfl⟩
                              clear hany
                              go_wp2_with fail
                              go_ret
                              exact ⟨_, rfl, .unformed HLG.out HBC.out HA.out HE2.out, HBF.out⟩
                            | false =>
                              have HE2 : Aside0 (endB c = true) := ⟨by rw [HEN.out, hany]; rfl⟩
                              clear hany
                              go_wp2_with fail
                              go_ret
                              exact ⟨_, rfl, .ok HLG.out HBC.out HA.out HE2.out, HBF.out⟩
end Go.Proofs.Ytecaemebamhamaa.Lv
