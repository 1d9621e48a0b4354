/- The law function MarkRaces: what it answers. -/
import Derived.Test.YtnimidkeoocchaaMarkRc
set_option linter.unusedVariables false
set_option linter.unusedSimpArgs false
namespace Go.Proofs.Ytnimidkeoocchaa.PK
open Go.RowKit Go.Proofs.YtnimidkeoocchaaW.PrintWords Go.Proofs.YtnimidkeoocchaaW.PrintLast Go.Proofs.YtnimidkeoocchaaW.PrintMore Go.Proofs.Ytnimidkeoocchaa.Hnd Go.Proofs.Ytnimidkeoocchaa.Mrk Go.Proofs.Ytnimidkeoocchaa.Rch
attribute [local go_sem] max2_int min2_int max_two min_two max_three min_three max_four min_four   -- for this text's walks alone

open Classical in
noncomputable def backstitchkeep3_MarkRaces.f (k : Nat) (a0 : Int) (l1 : List Deed) (l2 : List Int) : Option Bool := if deedsOk l1 then some true else none
set_option maxHeartbeats 16000000 in
set_option maxRecDepth 100000 in
theorem backstitchkeep3_MarkRaces.calls (k : Nat) (a0 : Int) (A1 : Option Addr) (c1 : Nat) (l1 : List Deed) (A2 : Option Addr) (c2 : Nat) (l2 : List Int) (r : Bool) (w : World) (hr1 : Kd.C k31 w A1 l1.length l1) (hc1 : l1.length ≤ c1) (hr2 : Kd.C (Kd.int .i64) w A2 l2.length l2) (hc2 : l2.length ≤ c2) (h : backstitchkeep3_MarkRaces.f k a0 l1 l2 = some r) :
    Calls Try.prog 10 #[.int .i64 a0, .slice A1 l1.length c1, .slice A2 l2.length c2] w fun e w' => e = .returned (.bool r) ∧ Below w.heap.size w w' := by
  unfold backstitchkeep3_MarkRaces.f at h
  have hok : deedsOk l1 := by
    by_cases hx : deedsOk l1
    · exact hx
    · rw [if_neg hx] at h; exact absurd h (by simp)
  rw [if_pos hok] at h
  obtain rfl := Option.some.inj h
  have HR0 : Aside0 (Kd.C k31 w A1 (l1.take 60).length (l1.take 60)) := ⟨by
    have h_ := Kd.C_take hr1 (m := min l1.length 60) (by omega)
    rwa [take_minN 60 l1] at h_⟩
  have HDO : Aside0 (∀ x ∈ l1.take 60, x.f3 ≤ 9223372036854775807) := ⟨fun x hx => hok x (List.mem_of_mem_take hx)⟩
  have HLEN : Aside0 (((l1.take 60).length : Int) = min (l1.length : Int) 60) := ⟨by rw [List.length_take]; omega⟩
  have HCC := Aside0.mk hc1
  have HR2 : Aside0 (Kd.C (Kd.int .i64) w A2 (l2.take 20).length (l2.take 20)) := ⟨by
    have h_ := Kd.C_take hr2 (m := min l2.length 20) (by omega)
    rwa [take_minN 20 l2] at h_⟩
  have HLEN2 : Aside0 (((l2.take 20).length : Int) = min (l2.length : Int) 20) := ⟨by rw [List.length_take]; omega⟩
  have HCC2 := Aside0.mk hc2
  obtain ⟨q, hq, hq2⟩ := rest2 a0
  have HQ := Aside0.mk hq
  clear hr1 hc1 hr2 hc2 h hok hq
  generalize hl : l1.take 60 = l at HR0 HDO HLEN
  have HSML : Aside0 (l.length ≤ 60) := ⟨by rw [← hl, List.length_take]; omega⟩
  clear hl
  generalize hl2 : l2.take 20 = ls at HR2 HLEN2
  have HSML2 : Aside0 (ls.length ≤ 20) := ⟨by rw [← hl2, List.length_take]; omega⟩
  clear hl2
  obtain ⟨kd, hkd⟩ : ∃ kd, kd = 1 + q := ⟨_, rfl⟩
  have hw1 : wrap64 (1 + q) = kd := by unfold wrap64; omega
  have HKD : Aside0 (kd = 1 ∨ kd = 2) := ⟨by omega⟩
  clear hq2 hkd
  go_enter Try.func10, Try.ntmps10
  go_wp2_with fail
  refine (marked_calls w).mono ?_
  rintro e w1 ⟨rfl, hb1⟩
  have HB1 := Aside0.mk hb1
  clear hb1
  go_wp2_with fail
  refine (backstitchref3_Rest.calls a0 2 q w1 HQ.out).mono ?_
  rintro e w2 ⟨rfl, hd2⟩
  have HB2 := Aside0.mk (below_step HB1.out hd2.below)
  clear hd2
  go_wp2_with fail
  refine (new_calls w2 kd HKD.out).mono ?_
  rintro e w3 ⟨rfl, hm3, hb3⟩
  have HS3 := Aside0.mk (MkO.new hm3 HB2.out hb3)
  clear hm3 hb3
  generalize w2.heap.size = g at HS3 ⊢
  go_wp2_with fail
  refine (marked_calls w3).mono ?_
  rintro e w4 ⟨rfl, hb4⟩
  have HS4 := Aside0.mk (HS3.out.up hb4)
  clear hb4 HS3
  go_upto_region 6 with fail
  go_cut [42, 43, 44] (fun s42 s43 s44 wx => s42 = .slice A1 l.length c1 ∧ s43 = .int .i64 (l.length : Int) ∧ s44 = .int .i64 0 ∧ wx = w4)
  case first =>
    by_cases h20 : (60 : Int) < (l1.length : Int)
    · have e20 : l.length = 60 := by have h_ := HLEN.out; omega
      have c20 : ((60 : Int) ≤ (c1 : Int)) = True := eq_true (by have h_ := HCC.out; omega)
      have d20 : decide ((60 : Int) < (l1.length : Int)) = true := decide_eq_true h20
      go_wp2_with fail
      go_meet
      exact ⟨by rw [e20], by rw [e20]; rfl, rfl, rfl⟩
    · have e20 : l.length = l1.length := by have h_ := HLEN.out; omega
      have c20 : ((l1.length : Int) ≤ (c1 : Int)) = True := eq_true (by have h_ := HCC.out; omega)
      go_wp2_with fail
      go_meet
      exact ⟨by rw [e20], by rw [e20], rfl, rfl⟩
  case rest =>
  obtain ⟨rfl, rfl, rfl, rfl⟩ := hcut
  go_wp2_with fail
  go_loopg [44] l.length (fun kq v44 W => ∃ (i : Nat) (l' : List Th) (ok : Nat → Prop), v44 = .int .i64 (i : Int) ∧ Aside0 (i ≤ l.length ∧ kq = l.length - i) ∧ Aside0 (MkO w W W.heap.size ok g kd false l') ∧ Aside0 (K kd false [] l'))
  case atStart => exact ⟨0, [], _, rfl, ⟨Nat.zero_le _, by omega⟩, HS4, ⟨k_nil kd⟩⟩
  case round =>
    clear HS4
    obtain ⟨i, l', ok, rfl, HIQ, HS, HK⟩ := hrel
    by_cases hlt : i < l.length
    · have hi0 : (0 : Int) ≤ (i : Int) := by omega
      have hi1 : (i : Int) < (l.length : Int) := by omega
      have hdec : decide ((i : Int) < (l.length : Int)) = true := decide_eq_true hi1
      have hdec2 : decide (i < l.length) = true := decide_eq_true hlt
      have HLT := Aside0.mk hlt
      have HW64 : Aside0 (wrap64 ((i : Int) + 1) = ((i + 1 : Nat) : Int)) := ⟨by have := HSML.out; unfold wrap64; omega⟩
      obtain ⟨ad, rfl, x0, x1, x2, x3⟩ := at_deed (Kd.C_below HR0.out HS.out.low) i hlt
      have HX3 : Aside0 ((l.getD i z31).f3 ≤ 9223372036854775807) := ⟨HDO.out _ (by simp [List.getD_eq_getElem?_getD, hlt])⟩
      generalize l.getD i z31 = x at x0 x1 x2 x3 HX3
      obtain ⟨d, a, b, n⟩ := x
      dsimp only at x0 x1 x2 x3 HX3
      have hbx := below_alloc (Below.refl wr.heap.size wr) (Obj.cells #[.int .i64 d, .int .i64 a, .int .i64 b, .int .i64 n] 31)
      have HO := Aside0.mk (HS.out.up hbx)
      clear hbx hlt
      by_cases h5 : d < 5
      · have hd5 : decide (d < 5) = true := decide_eq_true h5
        have HDC := Aside0.mk (HO.out.deed d a b n HX3.out)
        have HKO := Aside0.mk (do_k HKD.out HK.out d a b n)
        have HMF := Aside0.mk (low_mk kd false l' a b n h5)
        generalize doL kd false l' d a b n = o at HDC HKO HMF
        clear h5
        go_wp2_with fail
        refine HDC.out.mono ?_
        rintro e w7 ⟨rfl, hs7, hf7⟩
        rw [HMF.out] at hs7
        have HS7 := Aside0.mk hs7
        have HK7 : Aside0 (K kd false [] o.l) := ⟨by have h_ := HKO.out; rw [HMF.out, nextB_same] at h_; exact h_⟩
        clear hs7 hf7
        go_wp2_with fail
        go_roundg (l.length - (i + 1))
        case measure => have := HIQ.out; have := HLT.out; omega
        case rel => exact ⟨i + 1, _, _, by first | rfl | rw [HW64.out], ⟨by have := HLT.out; omega, rfl⟩, HS7, HK7⟩
      · have hd5 : decide (d < 5) = false := decide_eq_false h5
        clear h5
        go_wp2_with fail
        go_roundg (l.length - (i + 1))
        case measure => have := HIQ.out; have := HLT.out; omega
        case rel => exact ⟨i + 1, _, _, by first | rfl | rw [HW64.out], ⟨by have := HLT.out; omega, rfl⟩, HO, HK⟩
    · have e_ : i = l.length := by have := HIQ.out; omega
      subst e_
      have hdec : decide ((l.length : Int) < (l.length : Int)) = false := decide_eq_false (by omega)
      have hdec2 : decide (l.length < l.length) = false := decide_eq_false hlt
      have HOK := Aside0.mk HS.out.ok_
      have HBD := Aside0.mk HS.out.bd
      clear hlt HIQ
      go_wp2_with fail
      refine (HS.out.graph).mono ?_
      rintro e w5 ⟨AH, cH, AR, cR, rfl, hh5, hr5, hb5⟩
      obtain ⟨_, h1, h2⟩ := Kd.R_reads' hh5
      obtain ⟨_, h3, h4⟩ := Kd.R_reads' hr5
      have HND := Aside0.mk (neededIn_calls w5 AH cH (graphL l') AR cR (heldL l') h2 h4 h3 (graphL_in HOK.out) (heldL_in l') (by rw [graphL_len]; have := HOK.out.len; omega))
      have HO5 := Aside0.mk (HS.out.below hb5)
      have HNE : Aside0 (rise (fromL (graphL l') (heldL l')) = rise (needL l')) := ⟨rfl⟩
      have HNZ : Aside0 ((rise (needL l')).length ≤ 1000) := ⟨by
        have h_ := rise_length (needL l')
        rw [needL_len] at h_
        have := HOK.out.len
        omega⟩
      have HB5 := Aside0.mk hb5
      rw [HNE.out] at HND
      obtain ⟨nd, hnd⟩ : ∃ nd, nd = rise (needL l') := ⟨_, rfl⟩
      rw [← hnd] at HND HNZ
      have HNQ := Aside0.mk hnd
      clear hh5 hr5 hb5 h1 h2 h3 h4 hnd HNE
      go_wp2_with fail
      refine HND.out.mono ?_
      rintro e w6 ⟨v6, rfl, hR6, hb6⟩
      obtain ⟨A6, c6, e6⟩ := Kd.R_slice hR6
      subst e6
      have HO6 := Aside0.mk (HO5.out.below hb6)
      have HR6 := Aside0.mk (R_newer hR6 HBD.out HB5.out.size (Nat.le_trans HS.out.low.size HB5.out.size))
      have HDC := Aside0.mk (HO6.out.deed 6 0 0 0 (by decide))
      have HKB := Aside0.mk (do_k HKD.out HK.out 6 0 0 0)
      have HKG := Aside0.mk (HK.out.begun 0 0 0)
      generalize doL kd false l' 6 0 0 0 = o at HDC HKB HKG
      clear hR6 hb6 HND
      go_wp2_with fail
      refine HDC.out.mono ?_
      rintro e w7 ⟨rfl, hs7, hf7⟩
      have HR7 := Aside0.mk (R_apart HR6.out hf7)
      rw [HKG.out.1] at hs7
      have HS7 := Aside0.mk hs7
      have HK7 : Aside0 (K kd true (needL l') o.l) := ⟨by have h_ := HKB.out; rw [HKG.out.2.2, HKG.out.1] at h_; exact h_⟩
      have HSM := Aside0.mk HKG.out.2.1
      clear hs7 hf7
      go_upto_region 14 with fail
      go_cut [65, 66, 67] (fun s65 s66 s67 wx => s65 = .slice A2 ls.length c2 ∧ s66 = .int .i64 (ls.length : Int) ∧ s67 = .int .i64 0 ∧ wx = w7)
      case first =>
        by_cases h20 : (20 : Int) < (l2.length : Int)
        · have e20 : ls.length = 20 := by have h_ := HLEN2.out; omega
          have c20 : ((20 : Int) ≤ (c2 : Int)) = True := eq_true (by have h_ := HCC2.out; omega)
          have d20 : decide ((20 : Int) < (l2.length : Int)) = true := decide_eq_true h20
          go_wp2_with fail
          go_meet
          exact ⟨by rw [e20], by rw [e20]; rfl, rfl, rfl⟩
        · have e20 : ls.length = l2.length := by have h_ := HLEN2.out; omega
          have c20 : ((l2.length : Int) ≤ (c2 : Int)) = True := eq_true (by have h_ := HCC2.out; omega)
          go_wp2_with fail
          go_meet
          exact ⟨by rw [e20], by rw [e20], rfl, rfl⟩
      case rest =>
      obtain ⟨rfl, rfl, rfl, rfl⟩ := hcut
      go_wp2_with fail
      go_loopg [67] ls.length (fun kq v67 W => ∃ (j : Nat) (l2' : List Th) (ok : Nat → Prop), v67 = .int .i64 (j : Int) ∧ Aside0 (j ≤ ls.length ∧ kq = ls.length - j) ∧ Aside0 (MkO w W W.heap.size ok g kd true l2') ∧ Aside0 (K kd true (needL l') l2') ∧ Aside0 (Sm l' l2') ∧ Aside0 ((Kd.int .i64).R 3 W w.heap.size (fun k => ¬ ok k) (.slice A6 nd.length c6) nd))
      case atStart => exact ⟨0, _, _, rfl, ⟨Nat.zero_le _, by omega⟩, HS7, HK7, HSM, HR7⟩
      case round =>
        clear HS7 HK7 HSM HR7 HR6 HS HO5 HO6
        obtain ⟨j, l3, ok3, rfl, HJQ, HS, HK3, HSM, HR3⟩ := hrel
        by_cases hjt : j < ls.length
        · have hj0 : (0 : Int) ≤ (j : Int) := by omega
          have hj1 : (j : Int) < (ls.length : Int) := by omega
          have hdec3 : decide ((j : Int) < (ls.length : Int)) = true := decide_eq_true hj1
          have hdec4 : decide (j < ls.length) = true := decide_eq_true hjt
          obtain ⟨ad3, e, hx⟩ := Kd.at_int (Kd.C_below HR2.out HS.out.low) (j : Int) hj0 hj1
          rw [Int.toNat_natCast, rdI' hjt] at hx
          subst e
          have HJT := Aside0.mk hjt
          generalize ls[j] = y at hx
          obtain ⟨z, hz, hz0, hz4⟩ := rest5 y
          have HW65 : Aside0 (wrap64 ((j : Int) + 1) = ((j + 1 : Nat) : Int)) := ⟨by have := HSML2.out; unfold wrap64; omega⟩
          have HRST := Aside0.mk (backstitchref3_Rest.calls y 5 z wr hz)
          have HZ4 : Aside0 (z ≤ 9223372036854775807) := ⟨by omega⟩
          have HDK := Aside0.mk (fun W1 (hb : Below wr.heap.size wr W1) => (HS.out.up hb).deed 5 0 0 z (by omega))
          have HKB := Aside0.mk (do_k HKD.out HK3.out 5 0 0 z)
          have HKG := Aside0.mk (HK3.out.steps 0 0 z)
          generalize doL kd true l3 5 0 0 z = o at HDK HKB HKG
          clear hz hz0 hz4 hjt
          go_wp2_with fail
          refine HRST.out.mono ?_
          rintro e w8 ⟨rfl, hd8⟩
          have hb8 := hd8.below
          have HB8 := Aside0.mk hb8
          have HR8 := Aside0.mk (Kd.R_below HR3.out hb8)
          clear hd8 hb8
          go_wp2_with fail
          refine (HDK.out w8 HB8.out).mono ?_
          rintro e w9 ⟨rfl, hs9, hf9⟩
          have HR9 := Aside0.mk (R_apart HR8.out hf9)
          rw [HKG.out.1] at hs9
          have HS9 := Aside0.mk hs9
          have HK9 : Aside0 (K kd true (needL l') o.l) := ⟨by have h_ := HKB.out; rw [HKG.out.1, nextB_same] at h_; exact h_⟩
          have HSM9 := Aside0.mk (HSM.out.trans HKG.out.2)
          clear hs9 hf9
          go_wp2_with fail
          go_roundg (ls.length - (j + 1))
          case measure => have := HJQ.out; have := HJT.out; omega
          case rel => exact ⟨j + 1, _, _, by first | rfl | rw [HW65.out], ⟨by have := HJT.out; omega, rfl⟩, HS9, HK9, HSM9, HR9⟩
        · have e_ : j = ls.length := by have := HJQ.out; omega
          subst e_
          have hdec3 : decide ((ls.length : Int) < (ls.length : Int)) = false := decide_eq_false (by omega)
          have hdec4 : decide (ls.length < ls.length) = false := decide_eq_false hjt
          have HDC7 := Aside0.mk (HS.out.deed 7 0 0 0 (by decide))
          have HLF := Aside0.mk (HK3.out.left HKD.out HSM.out HOK.out 0 0 0)
          generalize doL kd true l3 7 0 0 0 = o at HDC7 HLF
          clear hjt HJQ
          go_wp2_with fail
          refine HDC7.out.mono ?_
          rintro e w8 ⟨rfl, hs8, hf8⟩
          have HR8 := Aside0.mk (R_apart HR3.out hf8)
          rw [HLF.out.1] at hs8
          have HS8 := Aside0.mk hs8
          have HER : Aside0 (o.err = 0) := ⟨HLF.out.2.1⟩
          have HLQ : Aside0 (leftL (col o.l) = nd) := ⟨by rw [HNQ.out]; exact HLF.out.2.2⟩
          rw [HLF.out.2.1]
          clear hs8 hf8
          go_wp2_with fail
          refine (HS8.out.colours).mono ?_
          rintro e w9 ⟨v9, rfl, hR9, hb9⟩
          obtain ⟨A9, c9, e9⟩ := Kd.R_slice hR9
          subst e9
          have HC9 := Aside0.mk (Kd.R_reads' hR9).2.2
          have HR9 := Aside0.mk (Kd.R_below HR8.out hb9)
          have HS9 := Aside0.mk (HS8.out.below hb9)
          have HCL : Aside0 ((col o.l).length ≤ 1000) := ⟨by unfold col; rw [List.length_map]; exact HS8.out.ok_.len⟩
          generalize col o.l = cs at HC9 HLQ HCL
          clear hR9 hb9
          go_wp2_with fail
          go_loopg [16, 86] cs.length (fun kq v16 v86 W => ∃ (i : Nat), v86 = .int .i64 (i : Int) ∧ Aside0 (i ≤ cs.length ∧ kq = cs.length - i) ∧ Aside0 ((Kd.int .i64).R 3 W w9.heap.size (fun _ => True) v16 (leftTo cs i)) ∧ Aside0 (Below w9.heap.size w9 W))
          case atStart => exact ⟨0, rfl, ⟨Nat.zero_le _, by omega⟩, ⟨Kd.R_nil _ _ _ _ _⟩, ⟨Below.refl _ _⟩⟩
          case round =>
            obtain ⟨i, rfl, HIQ, HRL, HBL⟩ := hrel
            by_cases hit : i < cs.length
            · have hi0 : (0 : Int) ≤ (i : Int) := by omega
              have hi1 : (i : Int) < (cs.length : Int) := by omega
              have hdec5 : decide ((i : Int) < (cs.length : Int)) = true := decide_eq_true hi1
              have hdec6 : decide (i < cs.length) = true := decide_eq_true hit
              obtain ⟨ad5, e, hx⟩ := Kd.at_int (Kd.C_below HC9.out HBL.out) (i : Int) hi0 hi1
              subst e
              have hrd : rd cs (i : Int) = cs.getD i 0 := by unfold rd; simp
              rw [hrd, Int.toNat_natCast] at hx
              have HNX := Aside0.mk (leftTo_next cs i)
              have HLL := Aside0.mk (leftTo_len cs i)
              generalize leftTo cs i = xs at HRL HNX HLL
              generalize cs.getD i 0 = y at hx HNX
              have HIT := Aside0.mk hit
              have HW66 : Aside0 (wrap64 ((i : Int) + 1) = ((i + 1 : Nat) : Int)) := ⟨by have := HCL.out; unfold wrap64; omega⟩
              obtain ⟨A7, c7, e7⟩ := Kd.R_slice HRL.out
              subst e7
              have HU := Try.underlying29
              clear hrd hit
              by_cases h3 : y = 3
              · have hb3 : (y == 3) = true := by simpa using h3
                have HN2 : Aside0 (leftTo cs (i + 1) = xs) := ⟨by rw [HNX.out, if_pos hb3, List.append_nil]⟩
                clear h3
                go_wp2_with fail
                go_roundg (cs.length - (i + 1))
                case measure => have := HIQ.out; have := HIT.out; omega
                case rel => exact ⟨i + 1, by first | rfl | rw [HW66.out], ⟨by have := HIT.out; omega, rfl⟩, ⟨by rw [HN2.out]; exact HRL.out⟩, HBL⟩
              · have hb3 : (y == 3) = false := by simpa using h3
                have HN2 : Aside0 (leftTo cs (i + 1) = xs ++ [(i : Int)]) := ⟨by rw [HNX.out, if_neg (by rw [hb3]; decide)]⟩
                clear h3
                go_wp2_with (first | ((with_reducible refine gate_builtin (b := .append) (xs := #[.tmp 93, .tmp 95]) rfl ?_); refine Kd.R_append (Kd.int .i64) (w0 := w9) w9.heap.size rfl (.tmp 93) (.tmp 95) 29 3 (.int .i64 0) 8 rfl HU info_i rfl (by decide) (by decide) (.slice A7 xs.length c7) xs (i : Int) [.int .i64 (i : Int)] (fun _ => True) (fun _ => False) rfl ?hx rfl (fun _ hk => hk.elim) (fun _ _ => trivial) HRL.out HBL.out ?hbs ?hl ?_; (case hx => rfl); (case hbs => exact HBL.out.size); (case hl => have h_ := HLL.out; have h2_ := HCL.out; have h3_ := HIT.out; omega); intro v3 w3 ho hb hg3 hat; have HR3' := Aside0.mk ho; have HB3' := Aside0.mk hb; clear ho hb hg3 hat))
                go_roundg (cs.length - (i + 1))
                case measure => have := HIQ.out; have := HIT.out; omega
                case rel =>
                  refine ⟨i + 1, ?_, ⟨by have := HIT.out; omega, rfl⟩, ⟨by rw [HN2.out]; exact HR3'.out⟩, HB3'⟩
                  first | rfl | rw [HW66.out]
            · have e_ : i = cs.length := by have := HIQ.out; omega
              subst e_
              have hdec5 : decide ((cs.length : Int) < (cs.length : Int)) = false := decide_eq_false (by omega)
              have hdec6 : decide (cs.length < cs.length) = false := decide_eq_false hit
              have HLE : Aside0 (leftTo cs cs.length = nd) := HLQ
              rw [HLE.out] at HRL
              obtain ⟨A7, c7, e7⟩ := Kd.R_slice HRL.out
              subst e7
              obtain ⟨_, h1, h2⟩ := Kd.R_reads' HRL.out
              obtain ⟨_, h3, h4⟩ := Kd.R_reads' (Kd.R_below HR9.out HBL.out)
              have HEQ := Aside0.mk (backstitchref3_Eq_int.calls (nd.length + 1) A7 c7 nd A6 c6 nd true wr h2 h1 h4 h3 (by rw [eq_f nd nd (by have := HNZ.out; omega) _ (by omega)]; simp))
              have HSW := Aside0.mk (HS9.out.below HBL.out)
              clear hit HIQ h1 h2 h3 h4
              go_wp2_with fail
              refine HEQ.out.mono ?_
              rintro e w10 ⟨rfl, hd10⟩
              have HSX := Aside0.mk (HSW.out.below hd10.below)
              clear hd10
              go_wp2_with fail
              refine (HSX.out.marking).mono ?_
              rintro e w11 ⟨rfl, hb11⟩
              have HBE := Aside0.mk (HSX.out.below hb11).low
              clear hb11
              go_wp2_with fail
              go_ret
              exact ⟨rfl, HBE.out⟩
end Go.Proofs.Ytnimidkeoocchaa.PK
