/- The law function OwnsAway walked. -/
import Derived.Test.YtoleplbmkdhgeaaOwnAp
set_option linter.unusedVariables false
set_option linter.unusedSimpArgs false
namespace Go.Proofs.Ytoleplbmkdhgeaa.Own
open Go.RowKit Go.Proofs.YtoleplbmkdhgeaaW.PrintWords Go.Proofs.YtoleplbmkdhgeaaW.PrintLast Go.Proofs.YtoleplbmkdhgeaaW.PrintMore Go.Proofs.Ytoleplbmkdhgeaa.PN Go.Proofs.Ytoleplbmkdhgeaa.Hnd Go.Lib Go.Proofs.Ytoleplbmkdhgeaa.Chk

theorem need_len (has : List (List Int)) (roots : List Int) : (needE has roots).length ≤ has.length := by
  unfold needE
  split
  · exact Nat.le_trans (rise_length _) (by rw [Rch.fromL_length]; exact Nat.le_refl _)
  · simp
set_option maxHeartbeats 32000000 in
set_option maxRecDepth 100000 in
theorem away_calls (w : World) (has : List (List Int)) (roots : List Int) (AH : Option Addr) (cH : Nat) (AR : Option Addr) (cR : Nat) (n : Int) (hH : Kd.C (Kd.slice 3 (Kd.int .i64)) w AH has.length has) (hcH : has.length ≤ cH) (hR : Kd.C (Kd.int .i64) w AR roots.length roots) (hcR : roots.length ≤ cR) :
    Calls Try.prog 8 #[.agg #[.slice AH has.length cH, .slice AR roots.length cR], .int .i64 n] w fun e w' => e = .returned (.bool true) ∧ Below w.heap.size w w' := by
  obtain ⟨o1, ho1⟩ : ∃ ob, ob = Obj.cells #[.slice AH has.length cH, .slice AR roots.length cR] 25 := ⟨_, rfl⟩
  have hal := below_alloc (Below.refl w.heap.size w) o1
  have HB := Aside0.mk hal
  have HC : Aside0 ((w.alloc o1).heap[w.heap.size]? = some (.cells #[.slice AH has.length cH, .slice AR roots.length cR] 25 (0, 0))) := ⟨by rw [ho1]; exact blk_new w _⟩
  have HH := Aside0.mk (And.intro hH hcH)
  have HR := Aside0.mk (And.intro hR hcR)
  clear hal hH hcH hR hcR
  go_enter Try.func8, Try.ntmps8
  go_wp2_with fail
  rw [← ho1]
  clear ho1
  generalize w.alloc o1 = w1 at HB HC ⊢
  refine (owned_calls _).mono ?_
  rintro e w2 ⟨rfl, hb2⟩
  have HB2 := Aside0.mk (below_step HB.out hb2)
  have HC2 := Aside0.mk (blk_below HC.out hb2)
  clear hb2 HB HC
  have y0 := (blk_cell HC2.out 0).trans rfl
  have y1 := (blk_cell HC2.out 1).trans rfl
  go_wp2_with fail
  refine (Keeps_calls w2 has roots AH cH AR cR n (Kd.C_below HH.out.1 HB2.out) HH.out.2 (Kd.C_below HR.out.1 HB2.out) HR.out.2).mono ?_
  rintro e w3 ⟨v, rfl, hbad, hok, hb3⟩
  have HB3 := Aside0.mk (below_step HB2.out hb3)
  have HC3 := Aside0.mk (blk_below HC2.out hb3)
  clear hb3 HB2 HC2 y0 y1
  by_cases h0 : keepE has roots n = 0
  case neg =>
    have hed : (keepE has roots n != 0) = true := bne_iff_ne.mpr h0
    have hv := hbad h0
    subst hv
    clear hbad hok h0
    generalize keepE has roots n = ke at hed ⊢
    go_wp2_with fail
    refine (owned_calls _).mono ?_
    rintro e w4 ⟨rfl, hb4⟩
    have HB4 := Aside0.mk (below_step HB3.out hb4)
    clear hb4
    go_wp2_with fail
    go_ret
    exact ⟨rfl, HB4.out⟩
  obtain ⟨ck, hn, D, A, c, hD, rfl, hRk⟩ := hok h0
  have he : (keepE has roots n != 0) = false := by rw [h0]; decide
  obtain ⟨g1, g2, g3, g4⟩ := gr_of ck
  have HL4 := Aside0.mk (And.intro g2 (And.intro g3 g4))
  have HCK := Aside0.mk (And.intro ck (outs_ok (n := n) ck))
  have HE1 := Aside0.mk (fun k (hk : k ∈ needE has roots) => either ck hD (n := n) hk)
  have HE2 := Aside0.mk (keeps_none ck hD (n := n))
  have HE3 := Aside0.mk (counts ck hD (n := n))
  have HCP := Aside0.mk (Kd.R_reads' hRk).2
  have HKL : Aside0 ((keepTo (rpoL has roots) (fnD D) n has.length).length ≤ 100) := ⟨Nat.le_trans (keepTo_len _ _ _ _) g2⟩
  have HNL : Aside0 ((needE has roots).length ≤ 100) := ⟨Nat.le_trans (need_len _ _) g2⟩
  have HOL : Aside0 ((needE (outs n has) (stripL n roots)).length ≤ 100) := ⟨Nat.le_trans (need_len _ _) (by rw [outs_len]; exact g2)⟩
  clear hbad hok hRk g1 g2 g3 g4 hn hD ck h0
  generalize keepTo (rpoL has roots) (fnD D) n has.length = KP at HE1 HE2 HE3 HCP HKL ⊢
  generalize keepE has roots n = ke at he ⊢
  have y0 := (blk_cell HC3.out 0).trans rfl
  have y1 := (blk_cell HC3.out 1).trans rfl
  have HND := Aside0.mk (weak_Needed.calls (checkK has roots + 101) AH cH has AR cR roots (needE has roots) (checkE has roots) w3 (Kd.C_below HH.out.1 HB3.out) HH.out.2 (Kd.C_below HR.out.1 HB3.out) HR.out.2 (need_f has roots _ (Nat.le_refl _)))
  rw [HCK.out.1] at HND
  go_wp2_with fail
  refine HND.out.mono ?_
  rintro e w4 ⟨v4, rfl, hr4, hb4⟩
  clear HND
  obtain ⟨A4, c4, e4⟩ := Kd.R_slice hr4
  subst e4
  have HC4N := Aside0.mk (Kd.R_reads' hr4).2
  have HB4 := Aside0.mk (below_step HB3.out hb4)
  have HCP4 := Aside0.mk (And.intro HCP.out.1 (Kd.C_below HCP.out.2 hb4))
  have HC4 := Aside0.mk (blk_below HC3.out hb4)
  clear hr4 hb4 HB3 HC3 HCP y0 y1 he
  have y0 := (blk_cell HC4.out 0).trans rfl
  have y1 := (blk_cell HC4.out 1).trans rfl
  go_wp2_with fail
  refine (without_calls w4 has roots AH cH AR cR n (Kd.C_below HH.out.1 HB4.out) HH.out.2 (Kd.C_below HR.out.1 HB4.out) HR.out.2 (by have := HL4.out.1; omega) (by have := HL4.out.2.1; omega) (fun l hl => by have := HL4.out.2.2 l hl; omega)).mono ?_
  rintro e w5 ⟨A5, c5, B5, d5, he5, hrh5, hrr5, hb5⟩
  rw [show outTo n has has.length = outs n has from rfl] at hrh5
  rw [show has.length = (outs n has).length from (outs_len n has).symm] at he5 hrh5
  subst he5
  have HB5 := Aside0.mk (below_step HB4.out hb5)
  have HCP5 := Aside0.mk (And.intro HCP4.out.1 (Kd.C_below HCP4.out.2 hb5))
  have HC5N := Aside0.mk (And.intro HC4N.out.1 (Kd.C_below HC4N.out.2 hb5))
  have HR5 := Aside0.mk (And.intro (Kd.R_reads' hrh5).2 (Kd.R_reads' hrr5).2)
  have HND := Aside0.mk (weak_Needed.calls (checkK (outs n has) (stripL n roots) + 101) A5 c5 (outs n has) B5 d5 (stripL n roots) (needE (outs n has) (stripL n roots)) (checkE (outs n has) (stripL n roots)) w5 HR5.out.1.2 HR5.out.1.1 HR5.out.2.2 HR5.out.2.1 (need_f (outs n has) (stripL n roots) _ (Nat.le_refl _)))
  rw [HCK.out.2] at HND
  clear hb5 hrh5 hrr5 HB4 HCP4 HC4N HC4 y0 y1
  generalize outs n has = has2 at HND HE1 HE3 HOL HR5 ⊢
  generalize stripL n roots = roots2 at HND HE1 HE3 HOL HR5 ⊢
  go_wp2_with fail
  refine HND.out.mono ?_
  rintro e w6 ⟨v6, rfl, hr6, hb6⟩
  obtain ⟨A6, c6, e6⟩ := Kd.R_slice hr6
  subst e6
  have HO6 := Aside0.mk (Kd.R_reads' hr6).2
  have HB6 := Aside0.mk (below_step HB5.out hb6)
  have HK6 := Aside0.mk (And.intro HCP5.out.1 (Kd.C_below HCP5.out.2 hb6))
  have HN6 := Aside0.mk (And.intro HC5N.out.1 (Kd.C_below HC5N.out.2 hb6))
  clear hr6 hb6 HND HR5 HB5 HCP5 HC5N HCK HL4 HH HR
  generalize needE has2 roots2 = NO at HE1 HE3 HOL HO6 ⊢
  generalize needE has roots = NW at HE1 HE2 HE3 HNL HN6 ⊢
  have z0 : ((0 : Int) != 0) = false := by decide
  go_wp2_with fail
  go_loopg [49] NW.length (fun kq v49 W => ∃ i : Nat, v49 = .int .i64 (i : Int) ∧ Aside0 (i ≤ NW.length ∧ kq = NW.length - i) ∧ Aside0 (Below w6.heap.size w6 W))
  case atStart => exact ⟨0, rfl, ⟨Nat.zero_le _, by omega⟩, ⟨Below.refl _ _⟩⟩
  case round =>
    obtain ⟨i, rfl, HIQ, HBi⟩ := hrel
    by_cases hlt : i < NW.length
    · have hi0 : (0 : Int) ≤ (i : Int) := by omega
      have hi1 : (i : Int) < (NW.length : Int) := by omega
      have hdec : decide ((i : Int) < (NW.length : Int)) = true := decide_eq_true hi1
      have hdec2 : decide (i < NW.length) = true := decide_eq_true hlt
      have HLT := Aside0.mk hlt
      have HIW : Aside0 (wrap64 ((i : Int) + 1) = ((i + 1 : Nat) : Int)) := ⟨by have := HNL.out; unfold wrap64; omega⟩
      obtain ⟨ad, e, hx⟩ := Kd.at_int (Kd.C_below HN6.out.2 HBi.out) (i : Int) (by omega) (by omega)
      rw [Int.toNat_natCast, rdW hlt] at hx
      subst e
      have HK := Aside0.mk (HE1.out _ (List.getElem_mem hlt))
      generalize NW[i] = k at hx HK
      obtain ⟨b1, hb1⟩ : ∃ b, b = decide (k ∈ KP) := ⟨_, rfl⟩
      obtain ⟨b2, hb2⟩ : ∃ b, b = decide (k ∈ NO) := ⟨_, rfl⟩
      have HB12 : Aside0 ((b1 == b2) = false) := ⟨by
        have h_ := HK.out
        by_cases q : k ∈ NO
        · have q2 : k ∉ KP := fun q3 => h_.1 q3 q
          rw [hb1, hb2, decide_eq_true q, decide_eq_false q2]; rfl
        · have q2 : k ∈ KP := h_.2 q
          rw [hb1, hb2, decide_eq_false q, decide_eq_true q2]; rfl⟩
      have HC1 := Aside0.mk (backstitchref3_Has_int.calls (KP.length + 1) A c KP k b1 wr (Kd.C_below HK6.out.2 HBi.out) HK6.out.1 (by rw [Hsp.has_f KP k (by have := HKL.out; omega) _ (by omega), hb1]))
      have HC2 : Aside0 (∀ W, Below w6.heap.size w6 W → Calls Try.prog 18 #[.slice A6 NO.length c6, .int .i64 k] W fun e w' => e = .returned (.bool b2) ∧ Drawn0 W w') := ⟨fun W hW => backstitchref3_Has_int.calls (NO.length + 1) A6 c6 NO k b2 W (Kd.C_below HO6.out.2 hW) HO6.out.1 (by rw [Hsp.has_f NO k (by have := HOL.out; omega) _ (by omega), hb2])⟩
      clear hlt hb1 hb2 z0
      go_wp2_with fail
      refine HC1.out.mono ?_
      rintro e w7 ⟨rfl, hd7⟩
      have HB7 := Aside0.mk (below_step HBi.out hd7.below)
      clear hd7 HC1
      go_wp2_with fail
      refine (HC2.out _ HB7.out).mono ?_
      rintro e w8 ⟨rfl, hd8⟩
      have HB8 := Aside0.mk (below_step HB7.out hd8.below)
      have hbb := HB12.out
      clear hd8 HC2 HB7
      go_wp2_with fail
      go_roundg (NW.length - (i + 1))
      case measure => have := HIQ.out; have := HLT.out; omega
      case rel => exact ⟨i + 1, by first | rfl | rw [HIW.out], ⟨by have := HLT.out; omega, rfl⟩, HB8⟩
    · have e_ : i = NW.length := by have := HIQ.out; omega
      subst e_
      have hdec : decide ((NW.length : Int) < (NW.length : Int)) = false := decide_eq_false (by omega)
      have hdec2 : decide (NW.length < NW.length) = false := decide_eq_false hlt
      have HB9 := Aside0.mk (below_step HB6.out HBi.out)
      have HN9 := Aside0.mk (And.intro HN6.out.1 (Kd.C_below HN6.out.2 HBi.out))
      clear hlt HIQ HBi z0
      go_wp2_with fail
      refine (owned_calls _).mono ?_
      rintro e w10 ⟨rfl, hb10⟩
      have HB10 := Aside0.mk (below_step HB9.out hb10)
      have HN10 := Aside0.mk (And.intro HN9.out.1 (Kd.C_below HN9.out.2 hb10))
      clear hb10 HB9 HN9
      obtain ⟨b1, hb1⟩ : ∃ b, b = decide (n ∈ NW) := ⟨_, rfl⟩
      have HCL := Aside0.mk (backstitchref3_Has_int.calls (NW.length + 1) A4 c4 NW n b1 w10 HN10.out.2 HN10.out.1 (by rw [Hsp.has_f NW n (by have := HNL.out; omega) _ (by omega), hb1]))
      have HQ : Aside0 (((KP.length : Int) == 0) = !b1) := ⟨by
        by_cases q : n ∈ NW
        · have q2 : KP ≠ [] := fun q3 => HE2.out.1 q3 q
          rw [hb1, decide_eq_true q]
          have q4 : (KP.length : Int) ≠ 0 := by
            intro q5
            exact q2 (List.length_eq_zero_iff.1 (by omega))
          simp [q4, q2]
        · rw [hb1, decide_eq_false q, HE2.out.2 q]
          rfl⟩
      have HW : Aside0 (wrap64 ((KP.length : Int) + (NO.length : Int)) = (NW.length : Int)) := ⟨by have h1_ := HE3.out; have h2_ := HNL.out; unfold wrap64; omega⟩
      clear hb1
      have hq := HQ.out
      have hw_ := HW.out
      go_wp2_with fail
      refine HCL.out.mono ?_
      rintro e w11 ⟨rfl, hd11⟩
      have HB11 := Aside0.mk (below_step HB10.out hd11.below)
      clear hd11 HCL
      go_wp2_with fail
      go_ret
      exact ⟨rfl, HB11.out⟩
end Go.Proofs.Ytoleplbmkdhgeaa.Own
