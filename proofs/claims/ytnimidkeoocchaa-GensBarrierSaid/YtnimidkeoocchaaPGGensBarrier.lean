/- The law function GensBarrier: what it answers. -/
import Derived.Test.YtnimidkeoocchaaGenNeed
set_option linter.unusedVariables false
set_option linter.unusedSimpArgs false
namespace Go.Proofs.Ytnimidkeoocchaa.PG
open Go.RowKit Go.Proofs.YtnimidkeoocchaaW.PrintWords Go.Proofs.YtnimidkeoocchaaW.PrintLast Go.Proofs.YtnimidkeoocchaaW.PrintMore Go.Proofs.Ytnimidkeoocchaa.Hnd Go.Proofs.Ytnimidkeoocchaa.Gen Go.Proofs.Ytnimidkeoocchaa.Rch Go.Proofs.Ytnimidkeoocchaa.Ir
attribute [local go_sem] max2_int min2_int max_two min_two max_three min_three max_four min_four   -- for this text's walks alone

def anyY (yl row : List Int) : Bool := row.any (fun k => decide (k ∈ yl))
theorem any_eq {yl row : List Int} {p q : Prop} [Decidable p] [Decidable q] (h : p ↔ ¬ q ∧ ∃ k ∈ row, k ∈ yl) : decide p = (!decide q && anyY yl row) := by
  have e : anyY yl row = true ↔ ∃ k ∈ row, k ∈ yl := by unfold anyY; rw [List.any_eq_true]; simp
  rw [← e] at h
  cases hb : anyY yl row <;> by_cases hq : q <;> by_cases hp : p <;> simp_all
def backstitchkeep3_GensBarrier.f (k : Nat) (a0 : Int) (l1 : List Deed) : Option Bool := some true
set_option maxHeartbeats 16000000 in
set_option maxRecDepth 100000 in
theorem backstitchkeep3_GensBarrier.calls (k : Nat) (a0 : Int) (A1 : Option Addr) (c1 : Nat) (l1 : List Deed) (r : Bool) (w : World) (hr1 : Kd.C k31 w A1 l1.length l1) (hc1 : l1.length ≤ c1) (h : backstitchkeep3_GensBarrier.f k a0 l1 = some r) :
    Calls Try.prog 6 #[.int .i64 a0, .slice A1 l1.length c1] w fun e w' => e = .returned (.bool r) ∧ Below w.heap.size w w' := by
  unfold backstitchkeep3_GensBarrier.f at h
  obtain rfl := Option.some.inj h
  have HR0 : Aside0 (Kd.C k31 w A1 (l1.take 80).length (l1.take 80)) := ⟨by
    have h_ := Kd.C_take hr1 (m := min l1.length 80) (by omega)
    rwa [take_minN 80 l1] at h_⟩
  have HLEN : Aside0 (((l1.take 80).length : Int) = min (l1.length : Int) 80) := ⟨by rw [List.length_take]; omega⟩
  have HCC := Aside0.mk hc1
  obtain ⟨q, hq, hq0, hq1⟩ := rest10 a0
  have HQ := Aside0.mk hq
  clear hr1 hc1 h hq
  generalize hl : l1.take 80 = l at HR0 HLEN
  have HSML : Aside0 (l.length ≤ 80) := ⟨by rw [← hl, List.length_take]; omega⟩
  clear hl
  obtain ⟨nur, hnur⟩ : ∃ nur, nur = 1 + q := ⟨_, rfl⟩
  have hw1 : wrap64 (1 + q) = nur := by unfold wrap64; omega
  have HN1 : Aside0 (1 ≤ nur) := ⟨by omega⟩
  have HN2 : Aside0 (nur ≤ 100) := ⟨by omega⟩
  clear hq0 hq1 hnur
  go_enter Try.func6, Try.ntmps6
  go_wp2_with fail
  refine (fact_calls w).mono ?_
  rintro e w1 ⟨rfl, hb1⟩
  have HB1 := Aside0.mk hb1
  clear hb1
  go_wp2_with fail
  refine (backstitchref3_Rest.calls a0 10 q w1 HQ.out).mono ?_
  rintro e w2 ⟨rfl, hd2⟩
  have HB2 := Aside0.mk (below_step HB1.out hd2.below)
  clear hd2
  go_wp2_with fail
  refine (new_calls w2 nur HN1.out HN2.out).mono ?_
  rintro e w3 ⟨rfl, hm3, hb3⟩
  have HS3 := Aside0.mk (HpO.new HN1.out hm3 HB2.out hb3)
  generalize hokd : (fun k => k = w2.heap.size + 1 ∨ k = w2.heap.size) = ok0 at HS3
  clear hm3 hb3 hokd
  generalize w2.heap.size + 1 = g at HS3 ⊢
  go_wp2_with fail
  refine (fact_calls w3).mono ?_
  rintro e w4 ⟨rfl, hb4⟩
  have HS4 := Aside0.mk (HS3.out.up hb4)
  clear hb4 HS3
  go_upto_region 6 with fail
  go_cut [40, 41, 42] (fun s42 s43 s44 wx => s42 = .slice A1 l.length c1 ∧ s43 = .int .i64 (l.length : Int) ∧ s44 = .int .i64 0 ∧ wx = w4)
  case first =>
    by_cases h20 : (80 : Int) < (l1.length : Int)
    · have e20 : l.length = 80 := by have h_ := HLEN.out; omega
      have c20 : ((80 : Int) ≤ (c1 : Int)) = True := eq_true (by have h_ := HCC.out; omega)
      have d20 : decide ((80 : Int) < (l1.length : Int)) = true := decide_eq_true h20
      go_wp2_with fail
      go_meet
      exact ⟨by rw [e20], by rw [e20]; rfl, rfl, rfl⟩
    · have e20 : l.length = l1.length := by have h_ := HLEN.out; omega
      have c20 : ((l1.length : Int) ≤ (c1 : Int)) = True := eq_true (by have h_ := HCC.out; omega)
      go_wp2_with fail
      go_meet
      exact ⟨by rw [e20], by rw [e20], rfl, rfl⟩
  case rest =>
  obtain ⟨rfl, rfl, rfl, rfl⟩ := hcut
  go_wp2_with fail
  go_loopg [42] l.length (fun kq v42 W => ∃ (i : Nat) (l' : List Th) (rm' : Int → Bool) (ok : Nat → Prop), v42 = .int .i64 (i : Int) ∧ Aside0 (i ≤ l.length ∧ kq = l.length - i) ∧ Aside0 (HpO w W W.heap.size ok g nur l' rm' i))
  case atStart => exact ⟨0, [], _, _, rfl, ⟨Nat.zero_le _, by omega⟩, HS4⟩
  case round =>
    clear HS4
    obtain ⟨i, l', rm', ok, rfl, HIQ, HS⟩ := hrel
    by_cases hlt : i < l.length
    · have hi0 : (0 : Int) ≤ (i : Int) := by omega
      have hi1 : (i : Int) < (l.length : Int) := by omega
      have hdec : decide ((i : Int) < (l.length : Int)) = true := decide_eq_true hi1
      have hdec2 : decide (i < l.length) = true := decide_eq_true hlt
      have HLT := Aside0.mk hlt
      have HC10 : Aside0 (i < 10000) := ⟨by have := HSML.out; omega⟩
      have HW64 : Aside0 (wrap64 ((i : Int) + 1) = ((i + 1 : Nat) : Int)) := ⟨by have := HSML.out; unfold wrap64; omega⟩
      obtain ⟨ad, rfl, x0, x1, x2, x3⟩ := at_deed (Kd.C_below HR0.out HS.out.low) i hlt
      generalize l.getD i z31 = x at x0 x1 x2 x3
      obtain ⟨d, a, b, n⟩ := x
      dsimp only at x0 x1 x2 x3
      have hbx := below_alloc (Below.refl wr.heap.size wr) (Obj.cells #[.int .i64 d, .int .i64 a, .int .i64 b, .int .i64 n] 31)
      have HO := Aside0.mk (HS.out.below hbx)
      have HT := Aside0.mk (blk_new wr (Obj.cells #[.int .i64 d, .int .i64 a, .int .i64 b, .int .i64 n] 31))
      have HBD := Aside0.mk HS.out.bd
      have HNX : Aside0 (wr.heap.size < (wr.alloc (Obj.cells #[.int .i64 d, .int .i64 a, .int .i64 b, .int .i64 n] 31)).heap.size) := ⟨by simp⟩
      have HDC := Aside0.mk (HO.out.deed HC10.out d a b n)
      generalize doL nur l' rm' d a b n = o at HDC
      have y0 := (blk_cell HT.out 0).trans rfl
      have y1 := (blk_cell HT.out 1).trans rfl
      have y2 := (blk_cell HT.out 2).trans rfl
      have y3 := (blk_cell HT.out 3).trans rfl
      clear hbx hlt HS
      go_wp2_with fail
      refine HDC.out.mono ?_
      rintro e w7 ⟨rfl, hs7, hf7⟩
      have HS7 := Aside0.mk hs7
      clear hs7 hf7 y0 y1 y2 y3 HDC HO HT
      obtain ⟨lo, rmo, many, err⟩ := o
      dsimp only at HS7
      generalize hok7 : (fun k => (ok k ∨ (wr.alloc (Obj.cells #[.int .i64 d, .int .i64 a, .int .i64 b, .int .i64 n] 31)).heap.size ≤ k) ∧ k < w7.heap.size) = ok7 at HS7
      clear hok7
      go_wp2_with fail
      refine (HS7.out.barrier).mono ?_
      rintro e w8 ⟨AB, cB, rfl, hrb, hb8⟩
      have HS8 := Aside0.mk (HS7.out.below hb8)
      have HRB8 := Aside0.mk hrb
      clear hrb
      have HB8 := Aside0.mk hb8
      clear hb8
      go_wp2_with fail
      refine (HS8.out.young).mono ?_
      rintro e w9 ⟨AY, cY, rfl, hry, hb9⟩
      have HS9 := Aside0.mk (HS8.out.below hb9)
      have HRB9 := Aside0.mk (Kd.R_below HRB8.out hb9)
      have HRY9 := Aside0.mk hry
      have HB9 := Aside0.mk (below_step HB8.out hb9)
      clear hry hb9
      go_wp2_with fail
      refine (HS9.out.graph).mono ?_
      rintro e w10 ⟨AH, cH, AR, cR, rfl, hh10, hr10, hb10⟩
      have HB10 := Aside0.mk (below_step HB9.out hb10)
      have HCB := Aside0.mk (R_C (Kd.R_below HRB9.out hb10))
      have HCY := Aside0.mk (R_C (Kd.R_below HRY9.out hb10))
      have HCH := Aside0.mk ((Kd.R_reads' hh10).2.2)
      have HGI := Aside0.mk HS7.out.gi
      have HGL : Aside0 ((graphL lo).length = lo.length) := ⟨graphL_len lo⟩
      have HLO : Aside0 (lo.length ≤ 100) := ⟨HGI.out.len⟩
      have HBAR : Aside0 (∀ n, n < lo.length → (((n : Int) ∈ barL lo rmo) ↔ ¬ (n : Int) ∈ areL lo 0 ∧ ∃ k ∈ (graphL lo).getD n [], k ∈ areL lo 0)) := ⟨fun n hn => bar_iff HGI.out hn⟩
      have HBN : Aside0 ((barL lo rmo).length ≤ 1000) := ⟨by
        unfold barL; rw [List.length_map]
        have h_ := List.length_filter_le (fun n : Nat => rmo (n : Int) && hasY lo (n : Int)) (List.range lo.length)
        rw [List.length_range] at h_; have := HLO.out; omega⟩
      have HYN : Aside0 ((areL lo 0).length ≤ 1000) := ⟨by have h_ := areTo_len lo 0 lo.length; unfold areL; have := HLO.out; omega⟩
      have HGZ : Aside0 (∀ n, ((graphL lo).getD n []).length ≤ 1000) := ⟨fun n => by
        unfold graphL
        rw [List.getD_eq_getElem?_getD, List.getElem?_map]
        by_cases h_ : n < lo.length
        · rw [List.getElem?_eq_getElem h_]
          exact Nat.le_trans (List.length_filter_le _ _) (HGI.out.ok.pl _ (List.getElem_mem h_)).1
        · rw [List.getElem?_eq_none (by omega)]; simp⟩
      generalize (heldL lo).length = nH
      generalize graphL lo = gl at HCH HGL HBAR HGZ ⊢
      generalize barL lo rmo = bl at HCB HBAR HBN ⊢
      generalize areL lo 0 = yl at HCY HBAR HYN ⊢
      have hfd : ∀ w, (Instr.field 38 (.agg #[.slice AH gl.length cH, .slice AR nH cR]) 0).run Try.prog w = .ok (.slice AH gl.length cH) w := fun _ => by kernel_rfl
      clear hh10 hr10 hb10 HS8 HS9 HB8 HB9 HRB8 HRB9 HRY9
      go_wp2_with fail
      obtain ⟨wo, rfl⟩ : ∃ wo, wo = wr := ⟨wr, rfl⟩
      go_loopg [57] gl.length (fun kq v57 W => ∃ (j : Nat), v57 = .int .i64 (j : Int) ∧ Aside0 (j ≤ gl.length ∧ kq = gl.length - j) ∧ Aside0 (Below w10.heap.size w10 W))
      case atStart => exact ⟨0, rfl, ⟨Nat.zero_le _, by omega⟩, ⟨Below.refl _ _⟩⟩
      case round =>
        obtain ⟨j, rfl, HJQ, HBJ⟩ := hrel
        by_cases hjt : j < gl.length
        · have hj0 : (0 : Int) ≤ (j : Int) := by omega
          have hj1 : (j : Int) < (gl.length : Int) := by omega
          have hdecj : decide ((j : Int) < (gl.length : Int)) = true := decide_eq_true hj1
          have hdecj2 : decide (j < gl.length) = true := decide_eq_true hjt
          have HJT := Aside0.mk hjt
          have HJ64 : Aside0 (wrap64 ((j : Int) + 1) = ((j + 1 : Nat) : Int)) := ⟨by have h1_ := HJT.out; have h2_ := HGL.out; have h3_ := HLO.out; unfold wrap64; omega⟩
          obtain ⟨adH, B, cB2, rfl, z0, hzc, hzC⟩ := at_row (Kd.C_below HCH.out HBJ.out) j hjt
          have HZC := Aside0.mk hzc
          have HZZ := Aside0.mk hzC
          have HBJ2 := Aside0.mk (HBAR.out j (by have := HGL.out; omega))
          have HZL := Aside0.mk (HGZ.out j)
          generalize gl.getD j [] = row at z0 HZC HZZ HBJ2 HZL
          have HHAS := Aside0.mk (fun (W : World) (hW : Below w10.heap.size w10 W) (x : Int) => has_calls W x (Kd.C_below HCY.out.1 hW) HCY.out.2.1 (by have := HYN.out; omega))
          have HHASB := Aside0.mk (fun (W : World) (hW : Below w10.heap.size w10 W) (x : Int) => has_calls W x (Kd.C_below HCB.out.1 hW) HCB.out.2.1 (by have := HBN.out; omega))
          clear hzc hzC hjt
          go_wp2_with fail
          refine (HHAS.out _ HBJ.out (j : Int)).mono ?_
          rintro e w11 ⟨rfl, hb11⟩
          have HB11 := Aside0.mk (below_step HBJ.out hb11)
          have HBW11 := Aside0.mk hb11
          clear hb11
          go_wp2_with fail
          obtain ⟨wp, rfl⟩ : ∃ wp, wp = wr := ⟨wr, rfl⟩
          go_loopg [14, 68] row.length (fun kq v14 v68 W => ∃ (m : Nat), v68 = .int .i64 (m : Int) ∧ v14 = .bool (anyY yl (row.take m)) ∧ Aside0 (m ≤ row.length ∧ kq = row.length - m) ∧ Aside0 (Below w11.heap.size w11 W))
          case atStart => exact ⟨0, rfl, by simp [anyY], ⟨Nat.zero_le _, by omega⟩, ⟨Below.refl _ _⟩⟩
          case round =>
            obtain ⟨m, rfl, rfl, HMQ, HBM⟩ := hrel
            by_cases hmt : m < row.length
            · have hm0 : (0 : Int) ≤ (m : Int) := by omega
              have hm1 : (m : Int) < (row.length : Int) := by omega
              have hdecm : decide ((m : Int) < (row.length : Int)) = true := decide_eq_true hm1
              have hdecm2 : decide (m < row.length) = true := decide_eq_true hmt
              have HMT := Aside0.mk hmt
              have HM64 : Aside0 (wrap64 ((m : Int) + 1) = ((m + 1 : Nat) : Int)) := ⟨by have h1_ := HMT.out; have h2_ := HZL.out; unfold wrap64; omega⟩
              obtain ⟨adr, e, hx⟩ := Kd.at_int (Kd.C_below (Kd.C_below HZZ.out HBW11.out) HBM.out) (m : Int) hm0 hm1
              rw [Int.toNat_natCast, rdI _ _ hmt] at hx
              subst e
              have HNXT : Aside0 (anyY yl (row.take (m + 1)) = (anyY yl (row.take m) || decide (row[m] ∈ yl))) := ⟨by
                rw [List.take_succ_eq_append_getElem hmt]; unfold anyY; rw [List.any_append]; simp⟩
              have HHX := Aside0.mk (HHAS.out wr (below_step HB11.out HBM.out) row[m])
              generalize row[m] = x at hx HNXT HHX
              generalize decide (x ∈ yl) = bx at HNXT HHX
              cases hw : anyY yl (row.take m) with
              | true =>
                rw [hw, Bool.true_or] at HNXT
                clear hmt hw
                go_wp2_with fail
                go_roundg (row.length - (m + 1))
                case measure => have := HMQ.out; have := HMT.out; omega
                case rel => exact ⟨m + 1, by first | rfl | rw [HM64.out], by rw [HNXT.out], ⟨by have := HMT.out; omega, rfl⟩, HBM⟩
              | false =>
                rw [hw, Bool.false_or] at HNXT
                clear hmt hw
                go_wp2_with fail
                refine HHX.out.mono ?_
                rintro e w12 ⟨rfl, hb12⟩
                have HB12 := Aside0.mk (below_step HBM.out hb12)
                clear hb12
                go_wp2_with fail
                go_roundg (row.length - (m + 1))
                case measure => have := HMQ.out; have := HMT.out; omega
                case rel => exact ⟨m + 1, by first | rfl | rw [HM64.out], by rw [HNXT.out], ⟨by have := HMT.out; omega, rfl⟩, HB12⟩
            · have e_ : m = row.length := by have := HMQ.out; omega
              subst e_
              have hdecm : decide ((row.length : Int) < (row.length : Int)) = false := decide_eq_false (by omega)
              have hdecm2 : decide (row.length < row.length) = false := decide_eq_false hmt
              have HFIN : Aside0 (decide ((j : Int) ∈ bl) = (!decide ((j : Int) ∈ yl) && anyY yl (row.take row.length))) := ⟨by
                rw [List.take_length]
                exact any_eq HBJ2.out⟩
              have HCALL := Aside0.mk (HHASB.out wr (below_step HB11.out HBM.out) (j : Int))
              rw [HFIN.out] at HCALL
              generalize decide ((j : Int) ∈ yl) = b1 at HCALL ⊢
              generalize anyY yl (row.take row.length) = b2 at HCALL ⊢
              clear hmt HMQ
              go_wp2_with fail
              refine HCALL.out.mono ?_
              rintro e w12 ⟨rfl, hb12⟩
              have HB12 := Aside0.mk (below_step HB11.out (below_step HBM.out hb12))
              clear hb12 HCALL HFIN
              cases b1 <;> cases b2 <;>
                (go_wp2_with fail
                 go_roundg (gl.length - (j + 1))
                 case measure => have := HJQ.out; have := HJT.out; omega
                 case rel => exact ⟨j + 1, by first | rfl | rw [HJ64.out], ⟨by have := HJT.out; omega, rfl⟩, HB12⟩)
        · have e_ : j = gl.length := by have := HJQ.out; omega
          subst e_
          have hdecj : decide ((gl.length : Int) < (gl.length : Int)) = false := decide_eq_false (by omega)
          have hdecj2 : decide (gl.length < gl.length) = false := decide_eq_false hjt
          have HS11 := Aside0.mk (HS7.out.up (below_step HB10.out HBJ.out))
          clear hjt HJQ
          go_wp2_with fail
          go_roundg (l.length - (i + 1))
          case measure => have := HIQ.out; have := HLT.out; omega
          case rel => exact ⟨i + 1, _, _, _, by first | rfl | rw [HW64.out], ⟨by have := HLT.out; omega, rfl⟩, HS11⟩
    · have e_ : i = l.length := by have := HIQ.out; omega
      subst e_
      have hdec : decide ((l.length : Int) < (l.length : Int)) = false := decide_eq_false (by omega)
      have hdec2 : decide (l.length < l.length) = false := decide_eq_false hlt
      have HBL := Aside0.mk HS.out.low
      clear hlt HIQ
      go_wp2_with fail
      go_ret
      exact ⟨rfl, HBL.out⟩
end Go.Proofs.Ytnimidkeoocchaa.PG
