/- The law function MarkColours: what it answers. -/
import Derived.Test.YtnimidkeoocchaaMarkCl
set_option linter.unusedVariables false
set_option linter.unusedSimpArgs false
namespace Go.Proofs.Ytnimidkeoocchaa.PK
open Go.RowKit Go.Proofs.YtnimidkeoocchaaW.PrintWords Go.Proofs.YtnimidkeoocchaaW.PrintLast Go.Proofs.YtnimidkeoocchaaW.PrintMore Go.Proofs.Ytnimidkeoocchaa.Hnd Go.Proofs.Ytnimidkeoocchaa.Mrk Go.Proofs.Ytnimidkeoocchaa.Rch
attribute [local go_sem] max2_int min2_int max_two min_two max_three min_three max_four min_four   -- for this text's walks alone

open Classical in
noncomputable def backstitchkeep3_MarkColours.f (k : Nat) (a0 : Int) (l1 : List Deed) : Option Bool := if deedsOk l1 then some true else none
set_option maxHeartbeats 16000000 in
set_option maxRecDepth 100000 in
theorem backstitchkeep3_MarkColours.calls (k : Nat) (a0 : Int) (A1 : Option Addr) (c1 : Nat) (l1 : List Deed) (r : Bool) (w : World) (hr1 : Kd.C k31 w A1 l1.length l1) (hc1 : l1.length ≤ c1) (h : backstitchkeep3_MarkColours.f k a0 l1 = some r) :
    Calls Try.prog 9 #[.int .i64 a0, .slice A1 l1.length c1] w fun e w' => e = .returned (.bool r) ∧ Below w.heap.size w w' := by
  unfold backstitchkeep3_MarkColours.f at h
  have hok : deedsOk l1 := by
    by_cases hx : deedsOk l1
    · exact hx
    · rw [if_neg hx] at h; exact absurd h (by simp)
  rw [if_pos hok] at h
  obtain rfl := Option.some.inj h
  have HR0 : Aside0 (Kd.C k31 w A1 (l1.take 80).length (l1.take 80)) := ⟨by
    have h_ := Kd.C_take hr1 (m := min l1.length 80) (by omega)
    rwa [take_minN 80 l1] at h_⟩
  have HDO : Aside0 (∀ x ∈ l1.take 80, x.f3 ≤ 9223372036854775807) := ⟨fun x hx => hok x (List.mem_of_mem_take hx)⟩
  have HLEN : Aside0 (((l1.take 80).length : Int) = min (l1.length : Int) 80) := ⟨by rw [List.length_take]; omega⟩
  have HCC := Aside0.mk hc1
  obtain ⟨q, hq, hq2⟩ := rest2 a0
  have HQ := Aside0.mk hq
  clear hr1 hc1 h hok hq
  generalize hl : l1.take 80 = l at HR0 HDO HLEN
  have HSML : Aside0 (l.length ≤ 80) := ⟨by rw [← hl, List.length_take]; omega⟩
  clear hl
  obtain ⟨kd, hkd⟩ : ∃ kd, kd = 1 + q := ⟨_, rfl⟩
  have hw1 : wrap64 (1 + q) = kd := by unfold wrap64; omega
  have HKD : Aside0 (kd = 1 ∨ kd = 2) := ⟨by omega⟩
  clear hq2 hkd
  go_enter Try.func9, Try.ntmps9
  go_wp2_with fail
  refine (marked_calls w).mono ?_
  rintro e w1 ⟨rfl, hb1⟩
  have HB1 := Aside0.mk hb1
  clear hb1
  go_wp2_with fail
  refine (backstitchref3_Rest.calls a0 2 q w1 HQ.out).mono ?_
  rintro e w2 ⟨rfl, hd2⟩
  have HB2 := Aside0.mk (below_step HB1.out hd2.below)
  clear hd2
  go_wp2_with fail
  refine (new_calls w2 kd HKD.out).mono ?_
  rintro e w3 ⟨rfl, hm3, hb3⟩
  have HS3 := Aside0.mk (MkO.new hm3 HB2.out hb3)
  clear hm3 hb3
  generalize w2.heap.size = g at HS3 ⊢
  go_wp2_with fail
  refine (marked_calls w3).mono ?_
  rintro e w4 ⟨rfl, hb4⟩
  have HS4 := Aside0.mk (HS3.out.up hb4)
  clear hb4 HS3
  go_upto_region 7 with fail
  go_cut [47, 48, 49] (fun s47 s48 s49 wx => s47 = .slice A1 l.length c1 ∧ s48 = .int .i64 (l.length : Int) ∧ s49 = .int .i64 0 ∧ wx = w4)
  case first =>
    by_cases h20 : (80 : Int) < (l1.length : Int)
    · have e20 : l.length = 80 := by have h_ := HLEN.out; omega
      have c20 : ((80 : Int) ≤ (c1 : Int)) = True := eq_true (by have h_ := HCC.out; omega)
      have d20 : decide ((80 : Int) < (l1.length : Int)) = true := decide_eq_true h20
      go_wp2_with fail
      go_meet
      exact ⟨by rw [e20], by rw [e20]; rfl, rfl, rfl⟩
    · have e20 : l.length = l1.length := by have h_ := HLEN.out; omega
      have c20 : ((l1.length : Int) ≤ (c1 : Int)) = True := eq_true (by have h_ := HCC.out; omega)
      go_wp2_with fail
      go_meet
      exact ⟨by rw [e20], by rw [e20], rfl, rfl⟩
  case rest =>
  obtain ⟨rfl, rfl, rfl, rfl⟩ := hcut
  go_wp2_with fail
  go_loopg [49] l.length (fun kq v49 W => ∃ (i : Nat) (mk : Bool) (l' : List Th) (ok : Nat → Prop) (B : List Bool), v49 = .int .i64 (i : Int) ∧ Aside0 (i ≤ l.length ∧ kq = l.length - i) ∧ Aside0 (MkO w W W.heap.size ok g kd mk l') ∧ Aside0 (K kd mk B l'))
  case atStart => exact ⟨0, false, [], _, [], rfl, ⟨Nat.zero_le _, by omega⟩, HS4, ⟨k_nil kd⟩⟩
  case round =>
    clear HS4
    obtain ⟨i, mk, l', ok, B, rfl, HIQ, HS, HK⟩ := hrel
    by_cases hlt : i < l.length
    · have hi0 : (0 : Int) ≤ (i : Int) := by omega
      have hi1 : (i : Int) < (l.length : Int) := by omega
      have hdec : decide ((i : Int) < (l.length : Int)) = true := decide_eq_true hi1
      have hdec2 : decide (i < l.length) = true := decide_eq_true hlt
      have HLT := Aside0.mk hlt
      have HW64 : Aside0 (wrap64 ((i : Int) + 1) = ((i + 1 : Nat) : Int)) := ⟨by have := HSML.out; unfold wrap64; omega⟩
      obtain ⟨ad, rfl, x0, x1, x2, x3⟩ := at_deed (Kd.C_below HR0.out HS.out.low) i hlt
      have HX3 : Aside0 ((l.getD i z31).f3 ≤ 9223372036854775807) := ⟨HDO.out _ (by simp [List.getD_eq_getElem?_getD, hlt])⟩
      generalize l.getD i z31 = x at x0 x1 x2 x3 HX3
      obtain ⟨d, a, b, n⟩ := x
      dsimp only at x0 x1 x2 x3 HX3
      have hbx := below_alloc (Below.refl wr.heap.size wr) (Obj.cells #[.int .i64 d, .int .i64 a, .int .i64 b, .int .i64 n] 31)
      have HO := Aside0.mk (HS.out.up hbx)
      have HDC := Aside0.mk (HO.out.deed d a b n HX3.out)
      have HKO := Aside0.mk (do_k HKD.out HK.out d a b n)
      generalize doL kd mk l' d a b n = o at HDC HKO
      generalize nextB mk o.mk B l' = B' at HKO
      clear hbx hlt HS HK
      go_wp2_with fail
      refine HDC.out.mono ?_
      rintro e w5 ⟨rfl, hs5, hf5⟩
      clear hf5
      obtain ⟨mk', lo, many, err⟩ := o
      dsimp only at hs5 HKO
      have HS5 := Aside0.mk hs5
      clear hs5 HDC x0 x1 x2 x3
      go_wp2_with fail
      refine (HS5.out.marking).mono ?_
      rintro e w6 ⟨rfl, hb6⟩
      have HS6 := Aside0.mk (HS5.out.up hb6)
      clear hb6 HS5
      cases mk' with
      | false =>
        go_wp2_with fail
        go_roundg (l.length - (i + 1))
        case measure => have := HIQ.out; have := HLT.out; omega
        case rel => exact ⟨i + 1, _, _, _, _, by first | rfl | rw [HW64.out], ⟨by have := HLT.out; omega, rfl⟩, HS6, HKO⟩
      | true =>
        have HOK := Aside0.mk HS6.out.ok_
        have HQ1 : Aside0 (kd = 1 → ∀ n x, x ∈ (graphL lo).getD n [] → (col lo).getD n 0 = 2 → (col lo).getD x.toNat 0 ≠ 0) := ⟨fun e n x hx => by have h_ := HKO.out; subst e; exact h_.first hx⟩
        have HQ2 : Aside0 (kd = 2 → ∀ k, k < lo.length → (needL lo).getD k false = true → (col lo).getD k 0 = 0 → (fromL (whiteL lo) (greyTo (col lo) lo.length)).getD k false = true) := ⟨fun e k hk hn h0 => by have h_ := HKO.out; subst e; exact h_.second hk hn h0⟩
        go_wp2_with fail
        refine (HS6.out.graph').mono ?_
        rintro e w7 ⟨AH, cH, AR, cR, gl, hl, hgl, hhl, rfl, hh7, hr7, hb7⟩
        have HGQ := Aside0.mk hgl
        have HHQ := Aside0.mk hhl
        have HS7 := Aside0.mk (HS6.out.up hb7)
        have HH7 := Aside0.mk hh7
        have HR7 := Aside0.mk hr7
        clear hh7 hr7 hb7 hgl hhl
        go_wp2_with fail
        refine (HS7.out.colours').mono ?_
        rintro e w8 ⟨A8, c8, cs, hcs, rfl, hR8, hb8⟩
        have hbx := below_alloc (Below.refl w8.heap.size w8) (Obj.cells #[.slice AH gl.length cH, .slice AR hl.length cR] 38)
        have hb9 := below_step hb8 hbx
        have HS9 := Aside0.mk (HS7.out.up hb9)
        have HG9 := Aside0.mk (blk_new w8 (Obj.cells #[.slice AH gl.length cH, .slice AR hl.length cR] 38))
        have HC9 := Aside0.mk (Kd.R_reads' (Kd.R_below hR8 hbx)).2.2
        have HHC := Aside0.mk (Kd.R_reads' (Kd.R_below HH7.out hb9)).2.2
        have HHc := Aside0.mk (Kd.R_reads' (Kd.R_below HH7.out hb9)).2.1
        have HRC := Aside0.mk (Kd.R_reads' (Kd.R_below HR7.out hb9)).2.2
        have HRc := Aside0.mk (Kd.R_reads' (Kd.R_below HR7.out hb9)).2.1
        have HCL : Aside0 (cs.length = lo.length) := ⟨by rw [hcs]; simp [col]⟩
        have HGL : Aside0 (gl.length = lo.length) := ⟨by rw [HGQ.out]; exact graphL_len lo⟩
        have HLZ : Aside0 (lo.length ≤ 1000) := ⟨HOK.out.len⟩
        have HGI : Aside0 (∀ r ∈ gl, InR gl.length r) := ⟨by rw [HGQ.out]; exact graphL_in HOK.out⟩
        have HCQ := Aside0.mk hcs
        rw [← hcs] at HQ1 HQ2
        rw [← HGQ.out] at HQ1
        have HN9 : Aside0 (fromL gl hl = needL lo) := ⟨by rw [HGQ.out, HHQ.out]; rfl⟩
        clear hR8 hb8 hb9 hbx HH7 HR7 HS7 HS6 hcs
        by_cases hk : kd = 1
        · have hkb : (kd == 1) = true := by simpa using hk
          have g0 := (blk_cell HG9.out 0).trans rfl
          have HF1 := Aside0.mk (HQ1.out hk)
          clear hk HQ1 HQ2
          go_wp2_with fail
          clear g0
          go_loopg [68] gl.length (fun kq v68 W => ∃ (a : Nat), v68 = .int .i64 (a : Int) ∧ Aside0 (a ≤ gl.length ∧ kq = gl.length - a) ∧ W = w8.alloc (Obj.cells #[.slice AH gl.length cH, .slice AR hl.length cR] 38))
          case atStart => exact ⟨0, rfl, ⟨Nat.zero_le _, by omega⟩, rfl⟩
          case round =>
            obtain ⟨a, rfl, HAQ, eW⟩ := hrel
            have HEW := Aside0.mk eW
            rw [← eW] at HS9 HC9 HHC
            clear eW
            by_cases hat : a < gl.length
            · have ha0 : (0 : Int) ≤ (a : Int) := by omega
              have ha1 : (a : Int) < (gl.length : Int) := by omega
              obtain ⟨ad2, Ai, ci, e, hx, hci, hCi⟩ := at_row HHC.out a hat
              subst e
              have hdec3 : decide ((a : Int) < (gl.length : Int)) = true := decide_eq_true ha1
              have hdec4 : decide (a < gl.length) = true := decide_eq_true hat
              have HAT := Aside0.mk hat
              have HCI := Aside0.mk hCi
              have HRI := Aside0.mk (row_in HGI.out a)
              have HFA := Aside0.mk (HF1.out a)
              generalize gl.getD a [] = row at hx hci HCI HRI HFA
              have HRM : Aside0 (row.length ≤ 9223372036854775807) := ⟨HCI.out.2.1⟩
              have ha2 : (a : Int) < (cs.length : Int) := by rw [HCL.out, ← HGL.out]; exact ha1
              obtain ⟨ad3, e, hy⟩ := Kd.at_int HC9.out (a : Int) ha0 ha2
              subst e
              have hrd : rd cs (a : Int) = cs.getD a 0 := by unfold rd; simp
              rw [hrd, Int.toNat_natCast] at hy
              have HW65 : Aside0 (wrap64 ((a : Int) + 1) = ((a + 1 : Nat) : Int)) := ⟨by have := HLZ.out; have := HGL.out; have := HAT.out; unfold wrap64; omega⟩
              clear hCi hrd hat
              go_wp2_with fail
              clear hx
              go_loopg [75] row.length (fun kq v75 W => ∃ (b : Nat), v75 = .int .i64 (b : Int) ∧ Aside0 (b ≤ row.length ∧ kq = row.length - b) ∧ W = wr)
              case atStart => exact ⟨0, rfl, ⟨Nat.zero_le _, by omega⟩, rfl⟩
              case round =>
                obtain ⟨b, rfl, HBQ, rfl⟩ := hrel
                by_cases hbt : b < row.length
                · have hb0 : (0 : Int) ≤ (b : Int) := by omega
                  have hb1 : (b : Int) < (row.length : Int) := by omega
                  obtain ⟨ad4, e, hz⟩ := Kd.at_int HCI.out (b : Int) hb0 hb1
                  rw [Int.toNat_natCast, rdI' hbt] at hz
                  subst e
                  have hdec5 : decide ((b : Int) < (row.length : Int)) = true := decide_eq_true hb1
                  have hdec6 : decide (b < row.length) = true := decide_eq_true hbt
                  have HBT := Aside0.mk hbt
                  have hq := HRI.out _ (List.getElem_mem hbt)
                  have HFB := Aside0.mk (HFA.out _ (List.getElem_mem hbt))
                  generalize row[b] = y at hz hq HFB
                  have hq0 := hq.1
                  have hq1 : y < (cs.length : Int) := by rw [HCL.out, ← HGL.out]; exact hq.2
                  obtain ⟨ad5, e, ht⟩ := Kd.at_int HC9.out y hq0 hq1
                  have e' := Option.some.inj e
                  subst e'
                  have hrd2 : rd cs y = cs.getD y.toNat 0 := rfl
                  rw [hrd2] at ht
                  have HW66 : Aside0 (wrap64 ((b : Int) + 1) = ((b + 1 : Nat) : Int)) := ⟨by have := HRM.out; have := HBT.out; unfold wrap64; omega⟩
                  generalize cs.getD y.toNat 0 = cy at ht HFB
                  generalize cs.getD a 0 = ca at hy HFB
                  clear hbt hq hrd2 e
                  by_cases h2 : ca = 2
                  · have hcb : (ca == 2) = true := by simpa using h2
                    have hcz : (cy == 0) = false := by simpa using HFB.out h2
                    clear h2
                    go_wp2_with fail
                    go_roundg (row.length - (b + 1))
                    case measure => have := HBQ.out; have := HBT.out; omega
                    case rel => exact ⟨b + 1, by first | rfl | rw [HW66.out], ⟨by have := HBT.out; omega, rfl⟩, rfl⟩
                  · have hcb : (ca == 2) = false := by simpa using h2
                    clear h2
                    go_wp2_with fail
                    go_roundg (row.length - (b + 1))
                    case measure => have := HBQ.out; have := HBT.out; omega
                    case rel => exact ⟨b + 1, by first | rfl | rw [HW66.out], ⟨by have := HBT.out; omega, rfl⟩, rfl⟩
                · have e_ : b = row.length := by have := HBQ.out; omega
                  subst e_
                  have hdec5 : decide ((row.length : Int) < (row.length : Int)) = false := decide_eq_false (by omega)
                  have hdec6 : decide (row.length < row.length) = false := decide_eq_false hbt
                  clear hbt HBQ
                  go_wp2_with fail
                  go_roundg (gl.length - (a + 1))
                  case measure => have := HAQ.out; have := HAT.out; omega
                  case rel => exact ⟨a + 1, by first | rfl | rw [HW65.out], ⟨by have := HAT.out; omega, rfl⟩, HEW.out⟩
            · have e_ : a = gl.length := by have := HAQ.out; omega
              subst e_
              have hdec3 : decide ((gl.length : Int) < (gl.length : Int)) = false := decide_eq_false (by omega)
              have hdec4 : decide (gl.length < gl.length) = false := decide_eq_false hat
              clear hat HAQ
              go_wp2_with fail
              go_roundg (l.length - (i + 1))
              case measure => have := HIQ.out; have := HLT.out; omega
              case rel => exact ⟨i + 1, _, _, _, _, by first | rfl | rw [HW64.out], ⟨by have := HLT.out; omega, rfl⟩, HS9, HKO⟩
        · have hkb : (kd == 1) = false := by simpa using hk
          have HF2 := Aside0.mk (HQ2.out (by have := HKD.out; omega))
          clear hk HQ1 HQ2
          have g0 := (blk_cell HG9.out 0).trans rfl
          go_upto_region 24 with fail
          generalize hwb : w8.alloc (Obj.cells #[.slice AH gl.length cH, .slice AR hl.length cR] 38) = wb at HS9 HG9 HC9 HHC HRC g0 ⊢
          have HBW : Aside0 (Below w.heap.size w wb) := ⟨HS9.out.low⟩
          have HG8 : Aside0 (w8.heap.size < wb.heap.size) := ⟨by rw [← hwb]; simp⟩
          clear hwb
          have hby := below_alloc (Below.refl wb.heap.size wb) (Obj.cells #[.slice none 0 0, .slice none 0 0] 38)
          have H17 := Aside0.mk (blk_new wb (Obj.cells #[.slice none 0 0, .slice none 0 0] 38))
          have H17L : Aside0 (wb.heap.size ≤ wb.heap.size) := ⟨Nat.le_refl _⟩
          have HBY := Aside0.mk hby
          have g1 := pw_cell_below hby g0
          have HGX := Aside0.mk HG9.out
          clear hby g0
          go_wp2_with fail
          generalize hg17 : wb.heap.size = g17 at H17 H17L ⊢
          have HQ17 := Aside0.mk hg17
          clear g1
          have HWA : Aside0 (∀ n, whiteAt lo n = if 1 < cs.getD n 0 then [] else gl.getD n []) := ⟨fun n => by unfold whiteAt; rw [HCQ.out, HGQ.out]⟩
          have HU1 := Try.underlying29
          have HU2 := Try.underlying36
          rw [← hg17] at H17L
          go_loopg [16, 97] gl.length (fun kq v16 v97 W => ∃ (a : Nat) (A7 : Option Addr) (c7 : Nat) (vW : Value) (ts : List Tr), v97 = .int .i64 (a : Int) ∧ v16 = .slice A7 (greyTo cs a).length c7 ∧ Aside0 (a ≤ gl.length ∧ kq = gl.length - a) ∧ Aside0 ((Kd.int .i64).R 3 W wb.heap.size (fun _ => True) (.slice A7 (greyTo cs a).length c7) (greyTo cs a)) ∧ Aside0 (KT.R 29 W wb.heap.size (fun _ => True) vW ts) ∧ Aside0 (W.heap[g17]? = some (.cells #[vW, .slice none 0 0] 38 (0, 0))) ∧ Aside0 (Rws wb ts ((List.range a).map (whiteAt lo))) ∧ Aside0 (Below wb.heap.size wb W))
          case atStart => exact ⟨0, none, 0, .slice none 0 0, [], rfl, rfl, ⟨Nat.zero_le _, by omega⟩, ⟨Kd.R_nil _ _ _ _ _⟩, ⟨Kd.R_nil _ _ _ _ _⟩, H17, ⟨Rws.nil wb⟩, HBY⟩
          case round =>
            clear H17 HBY
            obtain ⟨a, A7, c7, vW, ts, rfl, rfl, HAQ, HRG, HT, H17, HRW, HBL⟩ := hrel
            by_cases hat : a < gl.length
            · have ha0 : (0 : Int) ≤ (a : Int) := by omega
              have ha1 : (a : Int) < (gl.length : Int) := by omega
              obtain ⟨ad2, Ai, ci, e, hx0, hci, hCi⟩ := at_row HHC.out a hat
              subst e
              have hx := pw_cell_below HBL.out hx0
              have hdec3 : decide ((a : Int) < (gl.length : Int)) = true := decide_eq_true ha1
              have hdec4 : decide (a < gl.length) = true := decide_eq_true hat
              have HAT := Aside0.mk hat
              have HCI := Aside0.mk hCi
              have HCIc := Aside0.mk hci
              have HWN : Aside0 ((List.range (a + 1)).map (whiteAt lo) = (List.range a).map (whiteAt lo) ++ [if 1 < cs.getD a 0 then [] else gl.getD a []]) := ⟨by rw [List.range_succ, List.map_append]; simp only [List.map_cons, List.map_nil, HWA.out]⟩
              have HTL : Aside0 (ts.length = a) := ⟨by rw [HRW.out.1]; simp⟩
              have HXL := Aside0.mk (greyTo_len cs a)
              have HGN := Aside0.mk (greyTo_next cs a)
              generalize gl.getD a [] = row at hx hci HCI HCIc HWN
              generalize greyTo cs a = xs at HRG HXL HGN
              have ha2 : (a : Int) < (cs.length : Int) := by rw [HCL.out, ← HGL.out]; exact ha1
              obtain ⟨ad3, e, hyb⟩ := Kd.at_int HC9.out (a : Int) ha0 ha2
              subst e
              have hrd : rd cs (a : Int) = cs.getD a 0 := by unfold rd; simp
              rw [hrd, Int.toNat_natCast] at hyb
              generalize cs.getD a 0 = ca at hyb HGN HWN
              have hy := pw_cell_below HBL.out hyb
              have HYB := Aside0.mk hyb
              clear hyb
              have HW65 : Aside0 (wrap64 ((a : Int) + 1) = ((a + 1 : Nat) : Int)) := ⟨by have := HLZ.out; have := HGL.out; have := HAT.out; unfold wrap64; omega⟩
              have y0 := (blk_cell H17.out 0).trans rfl
              clear hCi hrd hat hx0 hci
              by_cases c1' : ca = 1
              · have hcb : (ca == 1) = true := by simpa using c1'
                have hcd : decide (1 < ca) = false := decide_eq_false (by omega)
                rw [if_pos hcb] at HGN
                rw [if_neg (by omega)] at HWN
                clear c1'
                have HRR := Aside0.mk HRW.out
                go_wp2_with (first | ((with_reducible refine gate_builtin (b := .append) (xs := #[.tmp 107, .tmp 109]) rfl ?_); refine Kd.R_append (Kd.int .i64) (w0 := wb) wb.heap.size rfl (.tmp 107) (.tmp 109) 29 3 (.int .i64 0) 8 rfl HU1 info_i rfl (by decide) (by decide) (.slice A7 xs.length c7) xs (a : Int) [.int .i64 (a : Int)] (fun _ => True) (fun _ => False) rfl ?hx rfl (fun _ hk => hk.elim) (fun _ _ => trivial) HRG.out HBL.out ?hbs ?hl ?_; (case hx => rfl); (case hbs => exact HBL.out.size); (case hl => have h_ := HXL.out; have h2_ := HGL.out; have h3_ := HLZ.out; have h4_ := HAT.out; omega); intro v3 w3 ho3 hb3 hg3 hat3; obtain ⟨A3, c3, e3⟩ := Kd.R_slice ho3; subst e3; simp only [List.length_append, List.length_cons, List.length_nil, Nat.zero_add] at ho3; have HRGX := Aside0.mk ho3; have HBX := Aside0.mk hb3; have HTX := Aside0.mk (Kd.R_over HT.out HRG.out (by simp [Kd.scalar, KT]) hg3); have H17X := Aside0.mk (blk_grown H17.out hg3 (Kd.R_ne HRG.out H17.out (by decide))); have hy3 := pw_cell_below HBX.out HYB.out; have y0 : w3.cell? ⟨g17, 0, none⟩ = some vW := (blk_cell H17X.out 0).trans rfl; clear ho3 hb3 hg3 hat3) | ((with_reducible refine gate_builtin (b := .append) (xs := #[.tmp 117, .tmp 119]) rfl ?_); refine Kd.R_append KT (w0 := wb) wb.heap.size rfl (.tmp 117) (.tmp 119) 36 29 (.slice none 0 0) 24 rfl HU2 info_sl rfl (by decide) (by decide) vW ts (Ai, row.length, ci) [.slice Ai row.length ci] (fun _ => True) (fun _ => False) rfl ?hx rfl (fun _ hk => hk.elim) (fun _ _ => trivial) HTX.out HBX.out ?hbs ?hl ?_; (case hx => rfl); (case hbs => exact HBX.out.size); (case hl => have h_ := HTL.out; have h2_ := HGL.out; have h3_ := HLZ.out; have h4_ := HAT.out; omega); intro v4 w4 ho4 hb4 hg4 hat4; obtain ⟨A4, c4, e4⟩ := Kd.R_slice ho4; subst e4; simp only [List.length_append, List.length_cons, List.length_nil, Nat.zero_add] at ho4; have HT4 := Aside0.mk ho4; have HB4 := Aside0.mk hb4; have HRG4 := Aside0.mk (Kd.R_over HRGX.out HTX.out (by simp [Kd.int, Kd.scalar, KT]) hg4); have H174 := Aside0.mk (blk_grown H17X.out hg4 (Kd.R_ne HTX.out H17X.out (by decide))); have hd0 : w4.cell? ⟨g17, 0, none⟩ = some vW := (blk_cell H174.out 0).trans rfl; have hz0 : w4.frozen? ⟨g17, 0, none⟩ = false := blk_frozen H174.out 0; clear ho4 hb4 hg4 hat4))
                go_roundg (gl.length - (a + 1))
                case measure => have := HAQ.out; have := HAT.out; omega
                case rel =>
                  refine ⟨a + 1, A3, c3, .slice A4 (ts.length + 1) c4, ts ++ [(Ai, row.length, ci)], by first | rfl | rw [HW65.out], ?_, ⟨by have := HAT.out; omega, rfl⟩, ?_, ?_, ?_, ?_, ?_⟩
                  · first | rfl | (rw [HGN.out]; done) | (rw [HGN.out]; simp)
                  · exact ⟨by rw [HGN.out]; (try simp only [List.length_append, List.length_cons, List.length_nil, Nat.zero_add]); exact Kd.R_set HRG4.out H174.out (by simp [Kd.int, Kd.scalar, KT]) 0 _⟩
                  · exact ⟨Kd.R_set HT4.out H174.out (by simp [Kd.scalar, KT]) 0 _⟩
                  · exact ⟨blk_put H174.out 0 _ rfl⟩
                  · exact ⟨by rw [HWN.out]; exact HRW.out.snoc HCIc.out HCI.out⟩
                  · exact ⟨HB4.out.setCell (p := ⟨g17, 0, none⟩) (by have := HQ17.out; show wb.heap.size ≤ g17; omega) _⟩
              · have hcb : (ca == 1) = false := by simpa using c1'
                rw [if_neg (by rw [hcb]; decide), List.append_nil] at HGN
                have HTX := HT
                have HBX := HBL
                have HRGX := HRG
                have H17X := H17
                by_cases c2' : 1 < ca
                · have hcd : decide (1 < ca) = true := decide_eq_true c2'
                  rw [if_pos c2'] at HWN
                  clear c1' c2'
                  go_wp2_with (first | ((with_reducible refine gate_builtin (b := .append) (xs := #[.tmp 117, .tmp 119]) rfl ?_); refine Kd.R_append KT (w0 := wb) wb.heap.size rfl (.tmp 117) (.tmp 119) 36 29 (.slice none 0 0) 24 rfl HU2 info_sl rfl (by decide) (by decide) vW ts ((none : Option Addr), 0, 0) [.slice (none : Option Addr) 0 0] (fun _ => True) (fun _ => False) rfl ?hx rfl (fun _ hk => hk.elim) (fun _ _ => trivial) HTX.out HBX.out ?hbs ?hl ?_; (case hx => rfl); (case hbs => exact HBX.out.size); (case hl => have h_ := HTL.out; have h2_ := HGL.out; have h3_ := HLZ.out; have h4_ := HAT.out; omega); intro v4 w4 ho4 hb4 hg4 hat4; obtain ⟨A4, c4, e4⟩ := Kd.R_slice ho4; subst e4; simp only [List.length_append, List.length_cons, List.length_nil, Nat.zero_add] at ho4; have HT4 := Aside0.mk ho4; have HB4 := Aside0.mk hb4; have HRG4 := Aside0.mk (Kd.R_over HRGX.out HTX.out (by simp [Kd.int, Kd.scalar, KT]) hg4); have H174 := Aside0.mk (blk_grown H17X.out hg4 (Kd.R_ne HTX.out H17X.out (by decide))); have hd0 : w4.cell? ⟨g17, 0, none⟩ = some vW := (blk_cell H174.out 0).trans rfl; have hz0 : w4.frozen? ⟨g17, 0, none⟩ = false := blk_frozen H174.out 0; clear ho4 hb4 hg4 hat4))
                  go_roundg (gl.length - (a + 1))
                  case measure => have := HAQ.out; have := HAT.out; omega
                  case rel =>
                    refine ⟨a + 1, A7, c7, .slice A4 (ts.length + 1) c4, ts ++ [((none : Option Addr), 0, 0)], by first | rfl | rw [HW65.out], ?_, ⟨by have := HAT.out; omega, rfl⟩, ?_, ?_, ?_, ?_, ?_⟩
                    · first | rfl | (rw [HGN.out]; done) | (rw [HGN.out]; simp)
                    · exact ⟨by rw [HGN.out]; (try simp only [List.length_append, List.length_cons, List.length_nil, Nat.zero_add]); exact Kd.R_set HRG4.out H174.out (by simp [Kd.int, Kd.scalar, KT]) 0 _⟩
                    · exact ⟨Kd.R_set HT4.out H174.out (by simp [Kd.scalar, KT]) 0 _⟩
                    · exact ⟨blk_put H174.out 0 _ rfl⟩
                    · exact ⟨by rw [HWN.out]; exact HRW.out.snoc (r := []) (Nat.le_refl _) (Kd.C_nil _ _)⟩
                    · exact ⟨HB4.out.setCell (p := ⟨g17, 0, none⟩) (by have := HQ17.out; show wb.heap.size ≤ g17; omega) _⟩
                · have hcd : decide (1 < ca) = false := decide_eq_false c2'
                  rw [if_neg c2'] at HWN
                  clear c1' c2'
                  go_wp2_with (first | ((with_reducible refine gate_builtin (b := .append) (xs := #[.tmp 117, .tmp 119]) rfl ?_); refine Kd.R_append KT (w0 := wb) wb.heap.size rfl (.tmp 117) (.tmp 119) 36 29 (.slice none 0 0) 24 rfl HU2 info_sl rfl (by decide) (by decide) vW ts (Ai, row.length, ci) [.slice Ai row.length ci] (fun _ => True) (fun _ => False) rfl ?hx rfl (fun _ hk => hk.elim) (fun _ _ => trivial) HTX.out HBX.out ?hbs ?hl ?_; (case hx => rfl); (case hbs => exact HBX.out.size); (case hl => have h_ := HTL.out; have h2_ := HGL.out; have h3_ := HLZ.out; have h4_ := HAT.out; omega); intro v4 w4 ho4 hb4 hg4 hat4; obtain ⟨A4, c4, e4⟩ := Kd.R_slice ho4; subst e4; simp only [List.length_append, List.length_cons, List.length_nil, Nat.zero_add] at ho4; have HT4 := Aside0.mk ho4; have HB4 := Aside0.mk hb4; have HRG4 := Aside0.mk (Kd.R_over HRGX.out HTX.out (by simp [Kd.int, Kd.scalar, KT]) hg4); have H174 := Aside0.mk (blk_grown H17X.out hg4 (Kd.R_ne HTX.out H17X.out (by decide))); have hd0 : w4.cell? ⟨g17, 0, none⟩ = some vW := (blk_cell H174.out 0).trans rfl; have hz0 : w4.frozen? ⟨g17, 0, none⟩ = false := blk_frozen H174.out 0; clear ho4 hb4 hg4 hat4))
                  go_roundg (gl.length - (a + 1))
                  case measure => have := HAQ.out; have := HAT.out; omega
                  case rel =>
                    refine ⟨a + 1, A7, c7, .slice A4 (ts.length + 1) c4, ts ++ [(Ai, row.length, ci)], by first | rfl | rw [HW65.out], ?_, ⟨by have := HAT.out; omega, rfl⟩, ?_, ?_, ?_, ?_, ?_⟩
                    · first | rfl | (rw [HGN.out]; done) | (rw [HGN.out]; simp)
                    · exact ⟨by rw [HGN.out]; (try simp only [List.length_append, List.length_cons, List.length_nil, Nat.zero_add]); exact Kd.R_set HRG4.out H174.out (by simp [Kd.int, Kd.scalar, KT]) 0 _⟩
                    · exact ⟨Kd.R_set HT4.out H174.out (by simp [Kd.scalar, KT]) 0 _⟩
                    · exact ⟨blk_put H174.out 0 _ rfl⟩
                    · exact ⟨by rw [HWN.out]; exact HRW.out.snoc HCIc.out HCI.out⟩
                    · exact ⟨HB4.out.setCell (p := ⟨g17, 0, none⟩) (by have := HQ17.out; show wb.heap.size ≤ g17; omega) _⟩
            · have e_ : a = gl.length := by have := HAQ.out; omega
              subst e_
              have hdec3 : decide ((gl.length : Int) < (gl.length : Int)) = false := decide_eq_false (by omega)
              have hdec4 : decide (gl.length < gl.length) = false := decide_eq_false hat
              clear hat HAQ
              have y0 := (blk_cell H17.out 0).trans rfl
              have y1 := (blk_cell H17.out 1).trans rfl
              obtain ⟨AW, cW, eW⟩ := Kd.R_slice HT.out
              subst eW
              have HWL : Aside0 ((List.range gl.length).map (whiteAt lo) = whiteL lo) := ⟨by rw [HGL.out]; rfl⟩
              have HGE : Aside0 (greyTo cs gl.length = greyTo (col lo) lo.length) := ⟨by rw [HGL.out, HCQ.out]⟩
              rw [HWL.out] at HRW
              have HWI := Aside0.mk (whiteL_in HOK.out)
              have HGRI : Aside0 (InR (whiteL lo).length (greyTo cs gl.length)) := ⟨by rw [HGE.out]; exact greyTo_in lo.length (Nat.le_refl _)⟩
              have HWZ : Aside0 ((whiteL lo).length ≤ 1000000 ∧ (whiteL lo).length = lo.length) := ⟨by rw [whiteL_len]; exact ⟨by have := HLZ.out; omega, rfl⟩⟩
              rw [← HGL.out] at HF2
              have HF3 : Aside0 (∀ k, k < gl.length → (needL lo).getD k false = true → cs.getD k 0 = 0 → (fromL (whiteL lo) (greyTo cs gl.length)).getD k false = true) := ⟨HF2.out⟩
              generalize whiteL lo = wl at HRW HWI HGRI HWZ HF3
              generalize greyTo cs gl.length = gr at HRG HGRI HF3 ⊢
              obtain ⟨_, hc7, hC7⟩ := Kd.R_reads' HRG.out
              have HWC : Aside0 (KH.C wr AW wl.length wl) := ⟨(HRW.out.below HBL.out).C (Kd.R_reads' HT.out).2.2⟩
              have HCALL := Aside0.mk (rfrom_calls wr AW cW wl none 0 0 A7 c7 gr HWC.out hC7 hc7 HWI.out HGRI.out HWZ.out.1)
              have HTS : Aside0 (ts.length = wl.length) := ⟨HRW.out.1⟩
              rw [← HTS.out] at HCALL
              have HSN := Aside0.mk (fromL_length wl gr)
              generalize fromL wl gr = sn at HCALL HSN HF3
              have HBR := Aside0.mk HBL.out
              clear hc7 hC7
              go_wp2_with fail
              refine HCALL.out.mono ?_
              rintro e w12 ⟨v12, rfl, hR12, hb12⟩
              obtain ⟨A12, c12, e12⟩ := Kd.R_slice hR12
              subst e12
              have HS12 := Aside0.mk (Kd.R_reads' hR12).2.2
              have hb13 := HBL.out.trans (below_cut hb12 HBL.out.size)
              have HB13 := Aside0.mk hb13
              have HGX2 := Aside0.mk (blk_below HGX.out hb13)
              have z0 := (blk_cell HGX2.out 0).trans rfl
              have z1 := (blk_cell HGX2.out 1).trans rfl
              have HLI : Aside0 (InR gl.length hl) := ⟨by rw [HGL.out, HHQ.out]; have h_ := heldL_in lo; rwa [graphL_len] at h_⟩
              have HND := Aside0.mk (neededIn_calls w12 AH cH gl AR cR hl (Kd.C_below HHC.out hb13) (Kd.C_below HRC.out hb13) HRc.out HGI.out HLI.out (by have := HGL.out; have := HLZ.out; omega))
              rw [HN9.out] at HND
              have HNL : Aside0 (∀ x ∈ rise (needL lo), 0 ≤ x ∧ x < (gl.length : Int) ∧ (needL lo).getD x.toNat false = true) := ⟨fun x hx => by
                have h_ := mem_rise.1 hx
                rw [needL_len, ← HGL.out] at h_
                exact ⟨h_.1.1, h_.1.2, h_.2⟩⟩
              have HNZ : Aside0 ((rise (needL lo)).length ≤ 1000) := ⟨by
                have h_ := rise_length (needL lo)
                rw [needL_len] at h_
                have := HLZ.out
                omega⟩
              have HNF : Aside0 (∀ x ∈ rise (needL lo), 0 ≤ x ∧ x < (gl.length : Int) ∧ (cs.getD x.toNat 0 = 0 → sn.getD x.toNat false = true)) := ⟨fun x hx => by
                obtain ⟨h1, h2, h3⟩ := HNL.out x hx
                exact ⟨h1, h2, fun h0 => HF3.out x.toNat (by omega) h3 h0⟩⟩
              generalize rise (needL lo) = nd at HND HNZ HNF
              clear hR12 hb12 hb13 y0 y1 HF3 HNL
              go_wp2_with fail
              refine HND.out.mono ?_
              rintro e w13 ⟨v13, rfl, hR13, hb13⟩
              obtain ⟨A13, c13, e13⟩ := Kd.R_slice hR13
              subst e13
              have HN13 := Aside0.mk (Kd.R_reads' hR13).2.2
              have HS13 := Aside0.mk (Kd.C_below HS12.out hb13)
              have hb14 := HB13.out.trans (below_cut hb13 HB13.out.size)
              have HC13 := Aside0.mk (Kd.C_below HC9.out hb14)
              have HM13 := Aside0.mk (HS9.out.up hb14)
              clear hR13 hb13 hb14 z0 z1 HND
              go_wp2_with fail
              go_loopg [129] nd.length (fun kq v129 W => ∃ (j : Nat), v129 = .int .i64 (j : Int) ∧ Aside0 (j ≤ nd.length ∧ kq = nd.length - j) ∧ W = w13)
              case atStart => exact ⟨0, rfl, ⟨Nat.zero_le _, by omega⟩, rfl⟩
              case round =>
                obtain ⟨j, rfl, HJQ, rfl⟩ := hrel
                by_cases hjt : j < nd.length
                · have hj0 : (0 : Int) ≤ (j : Int) := by omega
                  have hj1 : (j : Int) < (nd.length : Int) := by omega
                  obtain ⟨ad5, e, hx⟩ := Kd.at_int HN13.out (j : Int) hj0 hj1
                  rw [Int.toNat_natCast, rdI' hjt] at hx
                  subst e
                  have hq := HNF.out _ (List.getElem_mem hjt)
                  have hdec5 : decide ((j : Int) < (nd.length : Int)) = true := decide_eq_true hj1
                  have hdec6 : decide (j < nd.length) = true := decide_eq_true hjt
                  have HJT := Aside0.mk hjt
                  generalize nd[j] = y at hx hq
                  obtain ⟨hq0, hq1, hq2⟩ := hq
                  have hq3 : y < (cs.length : Int) := by rw [HCL.out, ← HGL.out]; exact hq1
                  have hq4 : y < (sn.length : Int) := by rw [HSN.out, HWZ.out.2, ← HGL.out]; exact hq1
                  obtain ⟨ad6, e, hz⟩ := Kd.at_int HC13.out y hq0 hq3
                  subst e
                  obtain ⟨ad7, e, ht⟩ := Kd.at_bool HS13.out y hq0 hq4
                  subst e
                  have hrd : rd cs y = cs.getD y.toNat 0 := rfl
                  have hrd2 : rdOf false sn y = sn.getD y.toNat false := rfl
                  rw [hrd] at hz
                  rw [hrd2] at ht
                  generalize cs.getD y.toNat 0 = cy at hz hq2
                  generalize sn.getD y.toNat false = by_ at ht hq2
                  have HW67 : Aside0 (wrap64 ((j : Int) + 1) = ((j + 1 : Nat) : Int)) := ⟨by have := HNZ.out; unfold wrap64; omega⟩
                  clear hjt hrd hrd2
                  by_cases h0 : cy = 0
                  · have hcb : (cy == 0) = true := by simpa using h0
                    rw [hq2 h0] at ht
                    clear h0 hq2
                    go_wp2_with fail
                    go_roundg (nd.length - (j + 1))
                    case measure => have := HJQ.out; have := HJT.out; omega
                    case rel => exact ⟨j + 1, by first | rfl | rw [HW67.out], ⟨by have := HJT.out; omega, rfl⟩, rfl⟩
                  · have hcb : (cy == 0) = false := by simpa using h0
                    clear h0 hq2
                    go_wp2_with fail
                    go_roundg (nd.length - (j + 1))
                    case measure => have := HJQ.out; have := HJT.out; omega
                    case rel => exact ⟨j + 1, by first | rfl | rw [HW67.out], ⟨by have := HJT.out; omega, rfl⟩, rfl⟩
                · have e_ : j = nd.length := by have := HJQ.out; omega
                  subst e_
                  have hdec5 : decide ((nd.length : Int) < (nd.length : Int)) = false := decide_eq_false (by omega)
                  have hdec6 : decide (nd.length < nd.length) = false := decide_eq_false hjt
                  clear hjt HJQ
                  go_wp2_with fail
                  go_roundg (l.length - (i + 1))
                  case measure => have := HIQ.out; have := HLT.out; omega
                  case rel => exact ⟨i + 1, _, _, _, _, by first | rfl | rw [HW64.out], ⟨by have := HLT.out; omega, rfl⟩, HM13, HKO⟩
    · have e_ : i = l.length := by have := HIQ.out; omega
      subst e_
      have hdec : decide ((l.length : Int) < (l.length : Int)) = false := decide_eq_false (by omega)
      have hdec2 : decide (l.length < l.length) = false := decide_eq_false hlt
      have HBL := Aside0.mk HS.out.low
      clear hlt HIQ
      go_wp2_with fail
      go_ret
      exact ⟨rfl, HBL.out⟩
end Go.Proofs.Ytnimidkeoocchaa.PK
