/- The law function GensCounts: what it answers. -/
import Derived.Test.YtnimidkeoocchaaGenNeed
set_option linter.unusedVariables false
set_option linter.unusedSimpArgs false
namespace Go.Proofs.Ytnimidkeoocchaa.PG
open Go.RowKit Go.Proofs.YtnimidkeoocchaaW.PrintWords Go.Proofs.YtnimidkeoocchaaW.PrintLast Go.Proofs.YtnimidkeoocchaaW.PrintMore Go.Proofs.Ytnimidkeoocchaa.Hnd Go.Proofs.Ytnimidkeoocchaa.Gen Go.Proofs.Ytnimidkeoocchaa.Rch Go.Proofs.Ytnimidkeoocchaa.Ir
attribute [local go_sem] max2_int min2_int max_two min_two max_three min_three max_four min_four   -- for this text's walks alone

/-- What grew up once: of the heap, and not young. -/
def GrP (l : List Th) (gr : List Int) (c : Nat) : Prop := (∀ x ∈ gr, (0 ≤ x ∧ x < (l.length : Int)) ∧ ag l x.toNat ≠ 0) ∧ gr.length ≤ 100 * c
theorem GrP.older {l l' : List Th} {gr : List Int} {c : Nat} (h : GrP l gr c) (ho : Older l l') : GrP l' gr c :=
  ⟨fun x hx => ⟨⟨(h.1 x hx).1.1, by have := (h.1 x hx).1.2; have := ho.1; omega⟩, ho.2 _ (by have := (h.1 x hx).1; omega) (h.1 x hx).2⟩, h.2⟩
theorem GrP.not {l : List Th} {gr : List Int} {c : Nat} (h : GrP l gr c) {x : Int} (hx : x ∈ areL l 0) : ¬ x ∈ gr := fun hg => (h.1 x hg).2 (mem_are.1 hx).2
theorem new_b {d err : Int} (h : ¬ (d = 1 ∧ err = 0)) (h1 : d = 1) : (err == 0) = false := by simpa using fun h2 => h ⟨h1, h2⟩
def backstitchkeep3_GensCounts.f (k : Nat) (a0 : Int) (l1 : List Deed) : Option Bool := some true
set_option maxHeartbeats 16000000 in
set_option maxRecDepth 100000 in
theorem backstitchkeep3_GensCounts.calls (k : Nat) (a0 : Int) (A1 : Option Addr) (c1 : Nat) (l1 : List Deed) (r : Bool) (w : World) (hr1 : Kd.C k31 w A1 l1.length l1) (hc1 : l1.length ≤ c1) (h : backstitchkeep3_GensCounts.f k a0 l1 = some r) :
    Calls Try.prog 3 #[.int .i64 a0, .slice A1 l1.length c1] w fun e w' => e = .returned (.bool r) ∧ Below w.heap.size w w' := by
  unfold backstitchkeep3_GensCounts.f at h
  obtain rfl := Option.some.inj h
  have HR0 : Aside0 (Kd.C k31 w A1 (l1.take 80).length (l1.take 80)) := ⟨by
    have h_ := Kd.C_take hr1 (m := min l1.length 80) (by omega)
    rwa [take_minN 80 l1] at h_⟩
  have HLEN : Aside0 (((l1.take 80).length : Int) = min (l1.length : Int) 80) := ⟨by rw [List.length_take]; omega⟩
  have HCC := Aside0.mk hc1
  have HU := Try.underlying29
  obtain ⟨q, hq, hq0, hq1⟩ := rest10 a0
  have HQ := Aside0.mk hq
  clear hr1 hc1 h hq
  generalize hl : l1.take 80 = l at HR0 HLEN
  have HSML : Aside0 (l.length ≤ 80) := ⟨by rw [← hl, List.length_take]; omega⟩
  clear hl
  obtain ⟨nur, hnur⟩ : ∃ nur, nur = 1 + q := ⟨_, rfl⟩
  have hw1 : wrap64 (1 + q) = nur := by unfold wrap64; omega
  have HN1 : Aside0 (1 ≤ nur) := ⟨by omega⟩
  have HN2 : Aside0 (nur ≤ 100) := ⟨by omega⟩
  clear hq0 hq1 hnur
  go_enter Try.func3, Try.ntmps3
  go_wp2_with fail
  refine (fact_calls w).mono ?_
  rintro e w1 ⟨rfl, hb1⟩
  have HB1 := Aside0.mk hb1
  clear hb1
  go_wp2_with fail
  refine (backstitchref3_Rest.calls a0 10 q w1 HQ.out).mono ?_
  rintro e w2 ⟨rfl, hd2⟩
  have HB2 := Aside0.mk (below_step HB1.out hd2.below)
  clear hd2
  go_wp2_with fail
  refine (new_calls w2 nur HN1.out HN2.out).mono ?_
  rintro e w3 ⟨rfl, hm3, hb3⟩
  have HS3 := Aside0.mk (HpO.new HN1.out hm3 HB2.out hb3)
  generalize hokd : (fun k => k = w2.heap.size + 1 ∨ k = w2.heap.size) = ok0 at HS3
  clear hm3 hb3 hokd
  generalize w2.heap.size + 1 = g at HS3 ⊢
  go_wp2_with fail
  refine (fact_calls w3).mono ?_
  rintro e w4 ⟨rfl, hb4⟩
  have HS4 := Aside0.mk (HS3.out.up hb4)
  clear hb4 HS3
  go_upto_region 8 with fail
  go_cut [42, 43, 44] (fun s42 s43 s44 wx => s42 = .slice A1 l.length c1 ∧ s43 = .int .i64 (l.length : Int) ∧ s44 = .int .i64 0 ∧ wx = w4)
  case first =>
    by_cases h20 : (80 : Int) < (l1.length : Int)
    · have e20 : l.length = 80 := by have h_ := HLEN.out; omega
      have c20 : ((80 : Int) ≤ (c1 : Int)) = True := eq_true (by have h_ := HCC.out; omega)
      have d20 : decide ((80 : Int) < (l1.length : Int)) = true := decide_eq_true h20
      go_wp2_with fail
      go_meet
      exact ⟨by rw [e20], by rw [e20]; rfl, rfl, rfl⟩
    · have e20 : l.length = l1.length := by have h_ := HLEN.out; omega
      have c20 : ((l1.length : Int) ≤ (c1 : Int)) = True := eq_true (by have h_ := HCC.out; omega)
      go_wp2_with fail
      go_meet
      exact ⟨by rw [e20], by rw [e20], rfl, rfl⟩
  case rest =>
  obtain ⟨rfl, rfl, rfl, rfl⟩ := hcut
  go_wp2_with fail
  go_loopg [7, 8, 44] l.length (fun kq v7 v8 v44 W => ∃ (i : Nat) (l' : List Th) (rm' : Int → Bool) (ok : Nat → Prop) (AG : Option Addr) (cG : Nat) (gr : List Int), v44 = .int .i64 (i : Int) ∧ v7 = .int .i64 (l'.length : Int) ∧ v8 = .slice AG gr.length cG ∧ Aside0 (i ≤ l.length ∧ kq = l.length - i) ∧ Aside0 (HpO w W W.heap.size ok g nur l' rm' i) ∧ Aside0 (Kd.R (Kd.int .i64) 3 W w.heap.size (fun k => ¬ ok k) (.slice AG gr.length cG) gr) ∧ Aside0 (GrP l' gr i))
  case atStart => exact ⟨0, [], _, _, none, 0, [], rfl, rfl, rfl, ⟨Nat.zero_le _, by omega⟩, HS4, ⟨Kd.R_nil _ _ _ _ _⟩, ⟨fun x hx => by simp at hx, Nat.le_refl _⟩⟩
  case round =>
    clear HS4
    obtain ⟨i, l', rm', ok, AG, cG, gr, rfl, rfl, rfl, HIQ, HS, HG, HGP⟩ := hrel
    by_cases hlt : i < l.length
    · have hi0 : (0 : Int) ≤ (i : Int) := by omega
      have hi1 : (i : Int) < (l.length : Int) := by omega
      have hdec : decide ((i : Int) < (l.length : Int)) = true := decide_eq_true hi1
      have hdec2 : decide (i < l.length) = true := decide_eq_true hlt
      have HLT := Aside0.mk hlt
      have HC10 : Aside0 (i < 10000) := ⟨by have := HSML.out; omega⟩
      have HW64 : Aside0 (wrap64 ((i : Int) + 1) = ((i + 1 : Nat) : Int)) := ⟨by have := HSML.out; unfold wrap64; omega⟩
      obtain ⟨ad, rfl, x0, x1, x2, x3⟩ := at_deed (Kd.C_below HR0.out HS.out.low) i hlt
      generalize l.getD i z31 = x at x0 x1 x2 x3
      obtain ⟨d, a, b, n⟩ := x
      dsimp only at x0 x1 x2 x3
      have hbx := below_alloc (Below.refl wr.heap.size wr) (Obj.cells #[.int .i64 d, .int .i64 a, .int .i64 b, .int .i64 n] 31)
      have HO := Aside0.mk (HS.out.below hbx)
      have HT := Aside0.mk (blk_new wr (Obj.cells #[.int .i64 d, .int .i64 a, .int .i64 b, .int .i64 n] 31))
      have HBD := Aside0.mk HS.out.bd
      have HNX : Aside0 (wr.heap.size < (wr.alloc (Obj.cells #[.int .i64 d, .int .i64 a, .int .i64 b, .int .i64 n] 31)).heap.size) := ⟨by simp⟩
      have HGX := Aside0.mk (Kd.R_below HG.out hbx)
      have HGLT : Aside0 (∀ k, (Value.slice AG gr.length cG).ownBlock = some k → k < wr.heap.size) := ⟨fun k hk => Kd.R_lt HG.out k hk⟩
      clear hbx hlt
      go_wp2_with fail
      refine (HO.out.young).mono ?_
      rintro e w5 ⟨AW, cW, rfl, hrw, hb5⟩
      have HO5 := Aside0.mk (HO.out.below hb5)
      have HT5 := Aside0.mk (blk_below HT.out hb5)
      have HG5 := Aside0.mk (Kd.R_below HGX.out hb5)
      have HRW5 := Aside0.mk hrw
      have HDC := Aside0.mk (HO5.out.deed HC10.out d a b n)
      have HDL := Aside0.mk (do_len (nur := nur) (l := l') (rm := rm') d a b n)
      have HOL := Aside0.mk (do_older HS.out.gi d a b n)
      have HMC : Aside0 (d = 6 → (doL nur l' rm' d a b n).err = 0 ∧ (doL nur l' rm' d a b n).many ≤ ((areL l' 0).length : Int)) := ⟨fun e => by
        subst e
        refine ⟨rfl, ?_⟩
        have h_ := min_count l' rm'
        show (minN l' rm' : Int) ≤ _
        omega⟩
      have HWL : Aside0 ((areL l' 0).length ≤ 100) := ⟨by have h_ := areTo_len l' 0 l'.length; unfold areL; have := HS.out.gi.len; omega⟩
      have HWM : Aside0 (∀ x ∈ areL l' 0, 0 ≤ x ∧ x < (l'.length : Int)) := ⟨fun x hx => (mem_are.1 hx).1⟩
      have HLL : Aside0 (l'.length ≤ 100) := ⟨HS.out.gi.len⟩
      generalize doL nur l' rm' d a b n = o at HDC HDL HOL HMC
      have y0 := (blk_cell HT5.out 0).trans rfl
      have y1 := (blk_cell HT5.out 1).trans rfl
      have y2 := (blk_cell HT5.out 2).trans rfl
      have y3 := (blk_cell HT5.out 3).trans rfl
      clear hrw HS HG HGX
      go_wp2_with fail
      refine HDC.out.mono ?_
      rintro e w6 ⟨rfl, hs6, hf6⟩
      have HS6 := Aside0.mk hs6
      have HT6 := Aside0.mk (hf6.obj HT5.out (fun h_ => by have := HBD.out _ h_; omega))
      have HG6 := Aside0.mk (R_apart HG5.out hf6)
      have HRW6 := Aside0.mk (R_deed HRW5.out hf6 HBD.out (Nat.le_of_lt HNX.out))
      have HSZ6 : Aside0 (wr.heap.size ≤ w6.heap.size) := ⟨Nat.le_trans (Nat.le_of_lt HNX.out) (Nat.le_trans hb5.size hf6.size)⟩
      generalize hok7 : (fun k => (ok k ∨ w5.heap.size ≤ k) ∧ k < w6.heap.size) = ok7 at HS6 HG6
      have HG7 : Aside0 (Kd.R (Kd.int .i64) 3 w6 w.heap.size (fun k => ¬ ok7 k) (.slice AG gr.length cG) gr) := ⟨by rw [← hok7]; exact HG6.out⟩
      clear hb5 hs6 hf6 y0 y1 y2 y3 hok7 HG6 HG5 HO5 HT5 HRW5 HO HT HDC
      obtain ⟨lo, rmo, many, err⟩ := o
      dsimp only at HS6 HDL HOL HMC
      go_wp2_with fail
      refine (HS6.out.young).mono ?_
      rintro e w7 ⟨AI, cI, rfl, hri, hb7⟩
      have HS7 := Aside0.mk (HS6.out.below hb7)
      have HT7 := Aside0.mk (blk_below HT6.out hb7)
      have HG8 := Aside0.mk (Kd.R_below HG7.out hb7)
      have HRW7 := Aside0.mk (Kd.R_below HRW6.out hb7)
      have HRI7 := Aside0.mk hri
      have HI6 : Aside0 (w.heap.size ≤ w6.heap.size) := ⟨HS6.out.low.size⟩
      have HN6 : Aside0 (w6.heap.size ≤ w7.heap.size) := ⟨hb7.size⟩
      have HBD6 := Aside0.mk HS6.out.bd
      clear hri hb7 HG7 HRW6 HT6 HS6
      have y0 := (blk_cell HT7.out 0).trans rfl
      obtain ⟨bN, hbN⟩ : ∃ bN : Bool, bN = (d == 1 && err == 0) := ⟨_, rfl⟩
      go_upto_region 14 with fail
      go_cut [64] (fun s64 wx => s64 = .bool bN ∧ wx = w7)
      case first =>
        by_cases h1 : d = 1
        · have hb1 : (d == 1) = true := by simpa using h1
          cases he : (err == 0) <;>
            (go_wp2_with fail
             go_meet
             exact ⟨by rw [hbN, hb1, he]; rfl, rfl⟩)
        · have hb1 : (d == 1) = false := by simpa using h1
          go_wp2_with fail
          go_meet
          exact ⟨by rw [hbN, hb1]; rfl, rfl⟩
      case rest =>
      obtain ⟨rfl, rfl⟩ := hcut
      have HBN := Aside0.mk hbN
      clear hbN
      go_upto_if 64 with fail
      obtain ⟨w7, rfl⟩ : ∃ w7, w7 = wc := ⟨wc, rfl⟩
      go_cut [7] (fun s7 wx => s7 = .int .i64 (lo.length : Int) ∧ Aside0 (Below w7.heap.size w7 wx))
      case first =>
        rcases HDL.out with ⟨h1, h2, h3, h4, h5⟩ | ⟨h1, h2⟩
        · have hb : bN = true := by rw [HBN.out]; subst h1; subst h2; rfl
          rw [hb]
          obtain ⟨hC, hc, _⟩ := R_C HRI7.out
          subst h3
          have hin : decide ((l'.length : Int) ∈ areL lo 0) = true := decide_eq_true h5
          have HCALL := Aside0.mk (has_calls w7 (l'.length : Int) hC hc (by have h_ := areTo_len lo 0 lo.length; unfold areL; have := HS7.out.gi.len; omega))
          rw [hin] at HCALL
          have hmm : ((l'.length : Int) == (l'.length : Int)) = true := by simp
          have HW65 : Aside0 (wrap64 ((l'.length : Int) + 1) = (lo.length : Int)) := ⟨by have := HLL.out; rw [h4]; unfold wrap64; omega⟩
          clear hC hc hin h1 h2 h4 h5 hb
          go_wp2_with fail
          refine HCALL.out.mono ?_
          rintro e w8 ⟨rfl, hb8⟩
          have HB8 := Aside0.mk hb8
          clear hb8 HCALL
          go_wp2_with fail
          go_meet
          exact ⟨by first | (rw [HW65.out]; done) | (simp only [HW65.out]; done), HB8⟩
        · have hb : bN = false := by
            rw [HBN.out]
            cases hq : (d == 1 && err == 0) with
            | false => rfl
            | true =>
              simp only [Bool.and_eq_true, beq_iff_eq] at hq
              exact absurd hq h1
          rw [hb]
          have H2 := Aside0.mk h2
          clear h1 h2 hb
          go_wp2_with fail
          go_meet
          exact ⟨by rw [H2.out], ⟨Below.refl _ _⟩⟩
      case rest =>
      obtain ⟨rfl, HB8⟩ := hcut
      have HT8 := Aside0.mk (blk_below HT7.out HB8.out)
      have y0 := (blk_cell HT8.out 0).trans rfl
      go_upto_region 18 with fail
      obtain ⟨w8, rfl⟩ : ∃ w8, w8 = wc := ⟨wc, rfl⟩
      go_cut [88] (fun s88 wx => s88 = .bool false ∧ wx = w8)
      case first =>
        by_cases h6 : d = 6
        · have hb6 : (d == 6) = true := by simpa using h6
          obtain ⟨h1, h2⟩ := HMC.out h6
          subst h1
          have he : ((0 : Int) == 0) = true := rfl
          have hm : decide (((areL l' 0).length : Int) < many) = false := decide_eq_false (by omega)
          clear h2 h6
          go_wp2_with fail
          go_meet
          exact ⟨rfl, rfl⟩
        · have hb6 : (d == 6) = false := by simpa using h6
          clear h6
          go_wp2_with fail
          go_meet
          exact ⟨rfl, rfl⟩
      case rest =>
      obtain ⟨rfl, rfl⟩ := hcut
      have HS8 := Aside0.mk (HS7.out.below HB8.out)
      have HG9 := Aside0.mk (Kd.R_below HG8.out HB8.out)
      have HRW8 := Aside0.mk (Kd.R_below HRW7.out HB8.out)
      have HRI8 := Aside0.mk (Kd.R_below HRI7.out HB8.out)
      have HGP2 := Aside0.mk (HGP.out.older HOL.out)
      have HGI := Aside0.mk HS7.out.gi
      have HIL : Aside0 ((areL lo 0).length ≤ 100) := ⟨by have h_ := areTo_len lo 0 lo.length; unfold areL; have := HGI.out.len; omega⟩
      have HYN : Aside0 (((areL lo 0).length : Int) ≤ nur) := ⟨HGI.out.yng⟩
      have HNOT : Aside0 (∀ x ∈ areL lo 0, decide (x ∈ gr) = false) := ⟨fun x hx => decide_eq_false (HGP2.out.not hx)⟩
      have HOLD : Aside0 (∀ x ∈ areL l' 0, x ∉ areL lo 0 → (0 ≤ x ∧ x < (lo.length : Int)) ∧ ag lo x.toNat ≠ 0) := ⟨fun x hx hn => by
        have h1 := HWM.out x hx
        have h2 := HOL.out.1
        exact ⟨⟨h1.1, by omega⟩, fun h0 => hn (mem_are.2 ⟨⟨h1.1, by omega⟩, h0⟩)⟩⟩
      generalize areL lo 0 = yl at HRI8 HIL HYN HNOT HOLD ⊢
      generalize areL l' 0 = wl at HRW8 HWL HOLD ⊢
      have HBD8 : Aside0 (∀ k, ok7 k → k < w6.heap.size) := HBD6
      clear HDL HMC HBN HRI7 HRW7 HG8 HS7 HT7 HT8 y0 HWM
      go_wp2_with fail
      obtain ⟨wo, rfl⟩ : ∃ wo, wo = wr := ⟨wr, rfl⟩
      go_loopg [91] yl.length (fun kq v91 W => ∃ (j : Nat), v91 = .int .i64 (j : Int) ∧ Aside0 (j ≤ yl.length ∧ kq = yl.length - j) ∧ Aside0 (Below wc.heap.size wc W))
      case atStart => exact ⟨0, rfl, ⟨Nat.zero_le _, by omega⟩, ⟨Below.refl _ _⟩⟩
      case round =>
        obtain ⟨j, rfl, HJQ, HBJ⟩ := hrel
        by_cases hjt : j < yl.length
        · have hj0 : (0 : Int) ≤ (j : Int) := by omega
          have hj1 : (j : Int) < (yl.length : Int) := by omega
          have hdecj : decide ((j : Int) < (yl.length : Int)) = true := decide_eq_true hj1
          have hdecj2 : decide (j < yl.length) = true := decide_eq_true hjt
          have HJT := Aside0.mk hjt
          have HJ64 : Aside0 (wrap64 ((j : Int) + 1) = ((j + 1 : Nat) : Int)) := ⟨by have h1_ := HJT.out; have h2_ := HIL.out; unfold wrap64; omega⟩
          obtain ⟨adr, e, hx⟩ := Kd.at_int (R_C (Kd.R_below HRI8.out HBJ.out)).1 (j : Int) hj0 hj1
          rw [Int.toNat_natCast, rdI _ _ hjt] at hx
          subst e
          obtain ⟨hC, hc, _⟩ := R_C (Kd.R_below HG9.out HBJ.out)
          have HCALL := Aside0.mk (has_calls wr yl[j] hC hc (by have := HGP.out.2; have := HIQ.out; have := HSML.out; omega))
          rw [HNOT.out _ (List.getElem_mem hjt)] at HCALL
          generalize yl[j] = x at hx HCALL
          clear hC hc hjt
          go_wp2_with fail
          refine HCALL.out.mono ?_
          rintro e w11 ⟨rfl, hb11⟩
          have HB11 := Aside0.mk (below_step HBJ.out hb11)
          clear hb11
          go_wp2_with fail
          go_roundg (yl.length - (j + 1))
          case measure => have := HJQ.out; have := HJT.out; omega
          case rel => exact ⟨j + 1, by first | rfl | rw [HJ64.out], ⟨by have := HJT.out; omega, rfl⟩, HB11⟩
        · have e_ : j = yl.length := by have := HJQ.out; omega
          subst e_
          have hdecj : decide ((yl.length : Int) < (yl.length : Int)) = false := decide_eq_false (by omega)
          have hdecj2 : decide (yl.length < yl.length) = false := decide_eq_false hjt
          have HS9 := Aside0.mk (HS8.out.below HBJ.out)
          have HG10 := Aside0.mk (Kd.R_below HG9.out HBJ.out)
          have HRW9 := Aside0.mk (Kd.R_below HRW8.out HBJ.out)
          have HRI9 := Aside0.mk (Kd.R_below HRI8.out HBJ.out)
          have HSZ9 : Aside0 (w6.heap.size ≤ wr.heap.size) := ⟨Nat.le_trans HN6.out (Nat.le_trans HB8.out.size HBJ.out.size)⟩
          clear hjt HJQ HS8 HG9 HRW8 HRI8
          go_wp2_with fail
          obtain ⟨wp, rfl⟩ : ∃ wp, wp = wr := ⟨wr, rfl⟩
          go_loopg [8, 101] wl.length (fun kq v8 v101 W => ∃ (m : Nat) (A2 : Option Addr) (c2 : Nat) (gs : List Int), v101 = .int .i64 (m : Int) ∧ v8 = .slice A2 gs.length c2 ∧ Aside0 (m ≤ wl.length ∧ kq = wl.length - m) ∧ Aside0 (Fr (fun k => (Value.slice AG gr.length cG).ownBlock = some k) wp W) ∧ Aside0 (HpO w W w6.heap.size ok7 g nur lo rmo (i + 1)) ∧ Aside0 (Kd.R (Kd.int .i64) 3 W w.heap.size (fun k => ¬ ok7 k) (.slice A2 gs.length c2) gs) ∧ Aside0 ((∀ x ∈ gs, (0 ≤ x ∧ x < (lo.length : Int)) ∧ ag lo x.toNat ≠ 0) ∧ gs.length ≤ 100 * i + m) ∧ Aside0 ((Value.slice A2 gs.length c2).ownBlock = (Value.slice AG gr.length cG).ownBlock ∨ ∃ b, (Value.slice A2 gs.length c2).ownBlock = some b ∧ wp.heap.size ≤ b))
          case atStart => exact ⟨0, _, _, gr, rfl, rfl, ⟨Nat.zero_le _, by omega⟩, ⟨Fr.refl _ _⟩, HS9, HG10, ⟨HGP2.out.1, by have := HGP2.out.2; omega⟩, ⟨.inl rfl⟩⟩
          case round =>
            obtain ⟨m, A2, c2, gs, rfl, rfl, HMQ, HF, HSM, HGM, HGS, HOW⟩ := hrel
            have HRWM : Aside0 (Kd.R (Kd.int .i64) 3 wr _ (fun _ => True) (.slice AW wl.length cW) wl) := ⟨R_flat rfl HRW9.out (fun k hk => HF.out.blk k (Kd.R_lt HRW9.out k hk) (fun hs => by
              have h1 := HGLT.out k hs
              have h2 := ((Kd.own_of_R HRW9.out).lt k hk).1
              have h3 := HNX.out
              omega))⟩
            have HRIM : Aside0 (Kd.R (Kd.int .i64) 3 wr _ (fun _ => True) (.slice AI yl.length cI) yl) := ⟨R_flat rfl HRI9.out (fun k hk => HF.out.blk k (Kd.R_lt HRI9.out k hk) (fun hs => by
              have h1 := HGLT.out k hs
              have h2 := ((Kd.own_of_R HRI9.out).lt k hk).1
              have h3 := HSZ6.out
              omega))⟩
            by_cases hmt : m < wl.length
            · have hm0 : (0 : Int) ≤ (m : Int) := by omega
              have hm1 : (m : Int) < (wl.length : Int) := by omega
              have hdecm : decide ((m : Int) < (wl.length : Int)) = true := decide_eq_true hm1
              have hdecm2 : decide (m < wl.length) = true := decide_eq_true hmt
              have HMT := Aside0.mk hmt
              have HM64 : Aside0 (wrap64 ((m : Int) + 1) = ((m + 1 : Nat) : Int)) := ⟨by have h1_ := HMT.out; have h2_ := HWL.out; unfold wrap64; omega⟩
              obtain ⟨adr, e, hx⟩ := Kd.at_int (R_C HRWM.out).1 (m : Int) hm0 hm1
              rw [Int.toNat_natCast, rdI _ _ hmt] at hx
              subst e
              obtain ⟨hC, hc, _⟩ := R_C HRIM.out
              have HCALL := Aside0.mk (has_calls wr wl[m] hC hc (by have := HIL.out; omega))
              have HOX := Aside0.mk (HOLD.out _ (List.getElem_mem hmt))
              generalize wl[m] = x at hx HCALL HOX
              clear hC hc hmt
              cases hq : decide (x ∈ yl) with
              | true =>
                rw [hq] at HCALL
                clear hq
                go_wp2_with fail
                refine HCALL.out.mono ?_
                rintro e w11 ⟨rfl, hb11⟩
                have HF2 := Aside0.mk (HF.out.below hb11)
                have HSM2 := Aside0.mk (HSM.out.below hb11)
                have HGM2 := Aside0.mk (Kd.R_below HGM.out hb11)
                clear hb11
                go_wp2_with fail
                go_roundg (wl.length - (m + 1))
                case measure => have := HMQ.out; have := HMT.out; omega
                case rel => exact ⟨m + 1, _, _, gs, by first | rfl | rw [HM64.out], rfl, ⟨by have := HMT.out; omega, rfl⟩, HF2, HSM2, HGM2, ⟨HGS.out.1, by have := HGS.out.2; omega⟩, HOW⟩
              | false =>
                have HNI : Aside0 ((0 ≤ x ∧ x < (lo.length : Int)) ∧ ag lo x.toNat ≠ 0) := ⟨HOX.out (of_decide_eq_false hq)⟩
                rw [hq] at HCALL
                clear hq
                go_wp2_with fail
                refine HCALL.out.mono ?_
                rintro e w11 ⟨rfl, hb11⟩
                have HF2 := Aside0.mk (HF.out.below hb11)
                have HSM2 := Aside0.mk (HSM.out.below hb11)
                have HGM2 := Aside0.mk (Kd.R_below HGM.out hb11)
                have HLW := Aside0.mk HSM2.out.low
                have HFRESH : Aside0 (∀ k, w11.heap.size ≤ k → ¬ ok7 k) := ⟨fun k hk ho => by have h1 := HBD8.out k ho; have h2 := HSZ9.out; have h3 := HF2.out.size; omega⟩
                clear hb11
                go_wp2_with (first | ((with_reducible refine gate_builtin (b := .append) (xs := #[.tmp 109, .tmp 111]) rfl ?_); refine Kd.R_append (Kd.int .i64) (w0 := w) w.heap.size rfl (.tmp 109) (.tmp 111) 29 3 (.int .i64 0) 8 rfl HU info_i rfl (by decide) (by decide) (.slice A2 gs.length c2) gs x [.int .i64 x] (fun k => ¬ ok7 k) (fun _ => False) rfl rfl rfl (fun _ hk => hk.elim) HFRESH.out HGM2.out HLW.out ?hbs ?hl ?_; (case hbs => exact HLW.out.size); (case hl => have h_ := HGS.out.2; have h2_ := HIQ.out; have h3_ := HSML.out; have h4_ := HWL.out; have h5_ := HMQ.out; omega); intro v4 w4 ho4 hb4 hg4 hat4; obtain ⟨A4, c4, e4⟩ := Kd.R_slice ho4; subst e4; have HR4 := Aside0.mk ho4; have HG4 := Aside0.mk hg4; have HAT4 := Aside0.mk hat4; clear ho4 hb4 hg4 hat4))
                have HF4 : Aside0 (Fr (fun k => (Value.slice AG gr.length cG).ownBlock = some k) wp w4) := ⟨HF2.out.grown HG4.out (fun k hk => by
                  rcases HOW.out with h1 | ⟨b, h1, h2⟩
                  · exact .inl (h1 ▸ hk)
                  · rw [h1] at hk; injection hk with hk; exact .inr (hk ▸ h2))⟩
                have HSM4 : Aside0 (HpO w w4 w6.heap.size ok7 g nur lo rmo (i + 1)) := ⟨HSM2.out.else_ (ok2 := fun k => (Value.slice A2 gs.length c2).ownBlock = some k) ((Fr.refl _ w11).grown HG4.out (fun k hk => .inl hk)) (fun k hk h2 => HGM2.out.1 k h2 hk) (fun k hk => ((Kd.own_of_R HGM2.out).lt k hk).1)⟩
                have HOW4 : Aside0 ((Value.slice A4 (gs ++ [x]).length c4).ownBlock = (Value.slice AG gr.length cG).ownBlock ∨ ∃ b, (Value.slice A4 (gs ++ [x]).length c4).ownBlock = some b ∧ wp.heap.size ≤ b) := ⟨by
                  rcases HAT4.out with h1 | ⟨b, h1, h2⟩
                  · rw [h1]; exact HOW.out
                  · exact .inr ⟨b, h1, Nat.le_trans HF2.out.size h2⟩⟩
                go_roundg (wl.length - (m + 1))
                case measure => have := HMQ.out; have := HMT.out; omega
                case rel =>
                  refine ⟨m + 1, _, _, gs ++ [x], by first | rfl | rw [HM64.out], by rw [List.length_append]; rfl, ⟨by have := HMT.out; omega, rfl⟩, HF4, HSM4, HR4, ⟨?_, by have := HGS.out.2; simp; omega⟩, HOW4⟩
                  intro y hy
                  rcases List.mem_append.1 hy with h1 | h1
                  · exact HGS.out.1 y h1
                  · rw [List.mem_singleton] at h1; subst h1; exact HNI.out
            · have e_ : m = wl.length := by have := HMQ.out; omega
              subst e_
              have hdecm : decide ((wl.length : Int) < (wl.length : Int)) = false := decide_eq_false (by omega)
              have hdecm2 : decide (wl.length < wl.length) = false := decide_eq_false hmt
              have hdn : decide (nur < (yl.length : Int)) = false := decide_eq_false (by have := HYN.out; omega)
              clear hmt HMQ
              go_wp2_with fail
              refine (backstitchref3_Rest.calls a0 10 q wr HQ.out).mono ?_
              rintro e w12 ⟨rfl, hd12⟩
              have hb12 := hd12.below
              have HSN := Aside0.mk (HSM.out.up hb12)
              have HGN := Aside0.mk (Kd.R_below HGM.out hb12)
              clear hd12 hb12
              go_wp2_with fail
              go_roundg (l.length - (i + 1))
              case measure => have := HIQ.out; have := HLT.out; omega
              case rel => exact ⟨i + 1, _, _, _, _, _, gs, by first | rfl | rw [HW64.out], rfl, rfl, ⟨by have := HLT.out; omega, rfl⟩, HSN, HGN, ⟨HGS.out.1, by have h1 := HGS.out.2; have h2 := HWL.out; omega⟩⟩
    · have e_ : i = l.length := by have := HIQ.out; omega
      subst e_
      have hdec : decide ((l.length : Int) < (l.length : Int)) = false := decide_eq_false (by omega)
      have hdec2 : decide (l.length < l.length) = false := decide_eq_false hlt
      clear hlt HIQ
      go_wp2_with fail
      refine (HS.out.graph).mono ?_
      rintro e w5 ⟨AH, cH, AR, cR, rfl, hh5, hr5, hb5⟩
      have HBL := Aside0.mk (HS.out.below hb5).low
      rw [graphL_len]
      generalize (heldL l').length = hn
      generalize l'.length = ln
      have hfd : ∀ w, (Instr.field 38 (.agg #[.slice AH ln cH, .slice AR hn cR]) 0).run Try.prog w = .ok (.slice AH ln cH) w := fun _ => by kernel_rfl
      have heq : ((ln : Int) == (ln : Int)) = true := by simp
      clear hh5 hr5 hb5
      go_wp2_with fail
      go_ret
      exact ⟨by first | (simp; done) | rfl, HBL.out⟩
end Go.Proofs.Ytnimidkeoocchaa.PG
