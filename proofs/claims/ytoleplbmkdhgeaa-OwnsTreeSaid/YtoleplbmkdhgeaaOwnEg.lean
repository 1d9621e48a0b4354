/- The law function OwnsEdges walked. -/
import Derived.Test.YtoleplbmkdhgeaaOwnDs
set_option linter.unusedVariables false
set_option linter.unusedSimpArgs false
namespace Go.Proofs.Ytoleplbmkdhgeaa.Own
open Go.RowKit Go.Proofs.YtoleplbmkdhgeaaW.PrintWords Go.Proofs.YtoleplbmkdhgeaaW.PrintLast Go.Proofs.YtoleplbmkdhgeaaW.PrintMore Go.Proofs.Ytoleplbmkdhgeaa.PN Go.Proofs.Ytoleplbmkdhgeaa.Hnd Go.Lib Go.Proofs.Ytoleplbmkdhgeaa.Chk

theorem fnD_nat (D : List Int) (i : Nat) : fnD D (i : Int) = D.getD i (-2) := by unfold fnD; rw [if_pos (by omega), Int.toNat_natCast]
/-- What the tree tells of a thing: nothing, or its keeper's place. -/
theorem at_doms {W : World} {A : Option Addr} {D : List Int} (h : (Kd.int .i64).C W A D.length D) {x : Int} (h0 : 0 ≤ x) (h1 : x < (D.length : Int)) : ∃ ad, A = some ad ∧ W.cell? (ad.add x.toNat) = some (.int .i64 (fnD D x)) := by
  obtain ⟨ad, e, hx⟩ := Kd.at_int h x h0 h1
  refine ⟨ad, e, ?_⟩
  rw [hx]
  unfold rd
  rw [fnD_at _ h0, List.getD_eq_getElem?_getD, List.getD_eq_getElem?_getD, List.getElem?_eq_getElem (by omega)]
  rfl
def upz (pos : Int → Int) (a : Int) : Nat := if a < 0 then 0 else (pos a).toNat + 1
set_option maxHeartbeats 32000000 in
set_option maxRecDepth 100000 in
theorem edges_calls (w : World) (has : List (List Int)) (roots : List Int) (AH : Option Addr) (cH : Nat) (AR : Option Addr) (cR : Nat) (hH : Kd.C (Kd.slice 3 (Kd.int .i64)) w AH has.length has) (hcH : has.length ≤ cH) (hR : Kd.C (Kd.int .i64) w AR roots.length roots) (hcR : roots.length ≤ cR) :
    Calls Try.prog 6 #[.agg #[.slice AH has.length cH, .slice AR roots.length cR]] w fun e w' => e = .returned (.bool true) ∧ Below w.heap.size w w' := by
  obtain ⟨o1, ho1⟩ : ∃ ob, ob = Obj.cells #[.slice AH has.length cH, .slice AR roots.length cR] 25 := ⟨_, rfl⟩
  have hal := below_alloc (Below.refl w.heap.size w) o1
  have HB := Aside0.mk hal
  have HC : Aside0 ((w.alloc o1).heap[w.heap.size]? = some (.cells #[.slice AH has.length cH, .slice AR roots.length cR] 25 (0, 0))) := ⟨by rw [ho1]; exact blk_new w _⟩
  have HH := Aside0.mk (And.intro hH hcH)
  have HR := Aside0.mk (And.intro hR hcR)
  clear hal hH hcH hR hcR
  go_enter Try.func6, Try.ntmps6
  go_wp2_with fail
  rw [← ho1]
  clear ho1
  generalize w.alloc o1 = w1 at HB HC ⊢
  refine (owned_calls _).mono ?_
  rintro e w2 ⟨rfl, hb2⟩
  have HB2 := Aside0.mk (below_step HB.out hb2)
  have HC2 := Aside0.mk (blk_below HC.out hb2)
  clear hb2 HB HC
  have y0 := (blk_cell HC2.out 0).trans rfl
  have y1 := (blk_cell HC2.out 1).trans rfl
  go_wp2_with fail
  refine (Doms_calls w2 has roots AH cH AR cR (Kd.C_below HH.out.1 HB2.out) HH.out.2 (Kd.C_below HR.out.1 HB2.out) HR.out.2).mono ?_
  rintro e w3 ⟨v, rfl, hbad, hok, hb3⟩
  have HB3 := Aside0.mk (below_step HB2.out hb3)
  have HC3 := Aside0.mk (blk_below HC2.out hb3)
  clear hb3 HB2 HC2 y0 y1
  by_cases h0 : checkE has roots = 0
  · obtain ⟨D, A, c, rfl, hr, hl, hd⟩ := hok h0
    obtain ⟨g1, g2, g3, g4⟩ := gr_of h0
    have HCD := Aside0.mk (Kd.R_reads' hr).2
    have HL := Aside0.mk hl
    have HD := Aside0.mk hd
    have HG := Aside0.mk g1
    have HN := Aside0.mk (And.intro g2 g3)
    have HN4 := Aside0.mk g4
    have he : (checkE has roots != 0) = false := by rw [h0]; decide
    clear hbad hok hr hl hd g1 g2 g3 g4 h0
    generalize checkE has roots = ck at he ⊢
    have y1 := (blk_cell HC3.out 1).trans rfl
    go_wp2_with fail
    clear y1 he
    go_loopg [30] roots.length (fun kq v30 W => ∃ i : Nat, v30 = .int .i64 (i : Int) ∧ Aside0 (i ≤ roots.length ∧ kq = roots.length - i) ∧ Aside0 (Below w3.heap.size w3 W))
    case atStart => exact ⟨0, rfl, ⟨Nat.zero_le _, by omega⟩, ⟨Below.refl _ _⟩⟩
    case round =>
      obtain ⟨i, rfl, HIQ, HBi⟩ := hrel
      by_cases hlt : i < roots.length
      · have hi0 : (0 : Int) ≤ (i : Int) := by omega
        have hi1 : (i : Int) < (roots.length : Int) := by omega
        obtain ⟨ad, e, hx⟩ := Kd.at_int (Kd.C_below HR.out.1 (below_step HB3.out HBi.out)) (i : Int) (by omega) (by omega)
        rw [rdI roots i hlt] at hx
        rw [Int.toNat_natCast] at hx
        subst e
        have hdec : decide ((i : Int) < (roots.length : Int)) = true := decide_eq_true hi1
        have hdec2 : decide (i < roots.length) = true := decide_eq_true hlt
        have HLT := Aside0.mk hlt
        have HIW : Aside0 (wrap64 ((i : Int) + 1) = ((i + 1 : Nat) : Int)) := ⟨by have := HN.out; unfold wrap64; omega⟩
        have hm := List.getElem_mem hlt
        have hrg := HG.out.r _ hm
        have hdv := HD.out.rt _ hm
        generalize roots[i] = n at hx hrg hdv
        obtain ⟨adD, eD, hxD⟩ := at_doms (Kd.C_below HCD.out.2 HBi.out) hrg.1 (by rw [HL.out]; exact hrg.2)
        rw [hdv] at hxD
        subst eD
        have n0 : (0 : Int) ≤ n := hrg.1
        have n1 : n < (D.length : Int) := by rw [HL.out]; exact hrg.2
        have d1 : ((-1 : Int) != -1) = false := by decide
        clear hlt hm hrg hdv
        go_wp2_with fail
        go_roundg (roots.length - (i + 1))
        case measure => have := HIQ.out; have := HLT.out; omega
        case rel => exact ⟨i + 1, by first | rfl | rw [HIW.out], ⟨by have := HLT.out; omega, rfl⟩, HBi⟩
      · have e_ : i = roots.length := by have := HIQ.out; omega
        subst e_
        have hdec : decide ((roots.length : Int) < (roots.length : Int)) = false := decide_eq_false (by omega)
        have hdec2 : decide (roots.length < roots.length) = false := decide_eq_false hlt
        have HCi := Aside0.mk (blk_below HC3.out HBi.out)
        have HBk := Aside0.mk (below_step HB3.out HBi.out)
        have HCk := Aside0.mk (And.intro HCD.out.1 (Kd.C_below HCD.out.2 HBi.out))
        clear hlt HIQ HBi HB3 HC3 HCD
        have y0 := (blk_cell HCi.out 0).trans rfl
        go_wp2_with fail
        clear y0
        obtain ⟨w4, hw4⟩ : ∃ w4, w4 = wr := ⟨wr, rfl⟩
        rw [← hw4] at HCi HBk HCk
        go_loopg [43] has.length (fun kq v43 W => ∃ i : Nat, v43 = .int .i64 (i : Int) ∧ Aside0 (i ≤ has.length ∧ kq = has.length - i) ∧ Aside0 (Below w4.heap.size w4 W))
        case atStart => exact ⟨0, rfl, ⟨Nat.zero_le _, by omega⟩, ⟨by rw [hw4]; exact Below.refl _ _⟩⟩
        case round =>
          clear hw4
          obtain ⟨i, rfl, HIQ, HBi⟩ := hrel
          have HBw := Aside0.mk (below_step HBk.out HBi.out)
          by_cases hlt : i < has.length
          · have hi0 : (0 : Int) ≤ (i : Int) := by omega
            have hi1 : (i : Int) < (has.length : Int) := by omega
            have hdec : decide ((i : Int) < (has.length : Int)) = true := decide_eq_true hi1
            have hdec2 : decide (i < has.length) = true := decide_eq_true hlt
            have HLT := Aside0.mk hlt
            have HIW : Aside0 (wrap64 ((i : Int) + 1) = ((i + 1 : Nat) : Int)) := ⟨by have := HN.out; unfold wrap64; omega⟩
            obtain ⟨adH, cz, eH, hcz, hKz, hcellz⟩ := Kd.C_get (Kd.C_below HH.out.1 HBw.out) [] (i : Int) hi0 hi1
            obtain ⟨Ai, ci, rfl, hli, hCi⟩ := hKz
            rw [Int.toNat_natCast] at hcellz hli hCi
            have hrow : wr.cell? (adH.add i) = some (.slice Ai (rowF has (i : Int)).length ci) := by
              have h_ := hcellz 0 _ rfl
              unfold rowF
              rw [Int.toNat_natCast]
              simpa [Kd.slice] using h_
            subst eH
            have HCI : Aside0 (Kd.C (Kd.int .i64) wr Ai (rowF has (i : Int)).length (rowF has (i : Int))) := ⟨by unfold rowF; rw [Int.toNat_natCast]; exact hCi⟩
            obtain ⟨l, hl⟩ : ∃ l, l = rowF has (i : Int) := ⟨_, rfl⟩
            rw [← hl] at hrow HCI
            have HLE := Aside0.mk hl
            have HLM : Aside0 (l.length ≤ 10) := ⟨by rw [hl]; exact rows_le HN4.out _⟩
            clear hlt hcz hcellz hli hCi hl
            go_wp2_with fail
            clear hrow
            obtain ⟨w5, hw5⟩ : ∃ w5, w5 = wr := ⟨wr, rfl⟩
            rw [← hw5] at HCI HBi HBw
            go_loopg [50] l.length (fun kq v50 W => ∃ j : Nat, v50 = .int .i64 (j : Int) ∧ Aside0 (j ≤ l.length ∧ kq = l.length - j) ∧ Aside0 (Below w5.heap.size w5 W))
            case atStart => exact ⟨0, rfl, ⟨Nat.zero_le _, by omega⟩, ⟨by rw [hw5]; exact Below.refl _ _⟩⟩
            case round =>
              clear hw5
              obtain ⟨j, rfl, HJQ, HBj⟩ := hrel
              by_cases hlj : j < l.length
              · have hj0 : (0 : Int) ≤ (j : Int) := by omega
                have hj1 : (j : Int) < (l.length : Int) := by omega
                obtain ⟨ad, e, hx⟩ := Kd.at_int (Kd.C_below HCI.out HBj.out) (j : Int) (by omega) (by omega)
                rw [rdI l j hlj] at hx
                rw [Int.toNat_natCast] at hx
                subst e
                have hjec : decide ((j : Int) < (l.length : Int)) = true := decide_eq_true hj1
                have hjec2 : decide (j < l.length) = true := decide_eq_true hlj
                have HLJ := Aside0.mk hlj
                have HJW : Aside0 (wrap64 ((j : Int) + 1) = ((j + 1 : Nat) : Int)) := ⟨by have := HLM.out; unfold wrap64; omega⟩
                have hm := List.getElem_mem hlj
                generalize l[j] = k at hx hm
                have hi0 : (0 : Int) ≤ (i : Int) := by omega
                have hi1 : (i : Int) < (D.length : Int) := by rw [HL.out]; have := HLT.out; omega
                have hed : edgeR has (i : Int) k := ⟨hi0, by have := HLT.out; omega, by rw [← HLE.out]; exact hm⟩
                have hkg := HG.out.h (i : Int) hi0 (by have := HLT.out; omega) k (by rw [← HLE.out]; exact hm)
                have HED := Aside0.mk hed
                have hCj := Kd.C_below HCk.out.2 (HBi.out.trans (below_cut HBj.out HBi.out.size))
                obtain ⟨adD, eD, hxi⟩ := at_doms hCj hi0 hi1
                obtain ⟨adD2, eD2, hxk⟩ := at_doms hCj hkg.1 (by rw [HL.out]; exact hkg.2)
                obtain rfl : adD = adD2 := by rw [eD] at eD2; exact Option.some.inj eD2
                rw [Int.toNat_natCast] at hxi
                have k0 : (0 : Int) ≤ k := hkg.1
                have k1 : k < (D.length : Int) := by rw [HL.out]; exact hkg.2
                have HA := Aside0.mk eD
                subst eD2
                clear hlj hm hed hkg hCj
                by_cases h2 : fnD D (i : Int) = -2
                · have d2 : (fnD D (i : Int) == -2) = true := by rw [beq_iff_eq]; exact h2
                  clear h2
                  go_wp2_with fail
                  go_roundg (l.length - (j + 1))
                  case measure => have := HJQ.out; have := HLJ.out; omega
                  case rel => exact ⟨j + 1, by first | rfl | rw [HJW.out], ⟨by have := HLJ.out; omega, rfl⟩, HBj⟩
                have d2 : (fnD D (i : Int) == -2) = false := beq_eq_false_iff_ne.mpr h2
                have hir : (i : Int) ∈ rpoL has roots := by
                  by_cases q : (i : Int) ∈ rpoL has roots
                  · exact q
                  · exact absurd (HD.out.out _ q) h2
                have hkr := (rp_ok HG.out).clo _ hir k HED.out
                have hkt := HD.out.told k hkr
                have HIR := Aside0.mk (And.intro hir h2)
                have HKR := Aside0.mk (And.intro hkr hkt)
                have HUP : Aside0 (0 ≤ fnD D k → Up (fnD D) (i : Int) (fnD D k)) := ⟨fun q => HD.out.ed _ hir k HED.out _ (.refl q)⟩
                clear h2 hir hkr hkt
                go_wp2_with fail
                clear hx hxi
                obtain ⟨w6, hw6⟩ : ∃ w6, w6 = wr := ⟨wr, rfl⟩
                rw [← hw6] at HBj hxk
                obtain ⟨dk, hdk⟩ : ∃ dk, dk = fnD D k := ⟨_, rfl⟩
                rw [← hdk] at hxk HUP
                have HDK := Aside0.mk hdk
                have HXK := Aside0.mk hxk
                clear hdk hxk
                go_loopg [11] (upz (posF (placeL has roots)) (i : Int)) (fun kq v11 W => ∃ u : Int, v11 = .int .i64 u ∧ Aside0 (upz (posF (placeL has roots)) u ≤ kq ∧ (u = -1 ∨ (u ∈ rpoL has roots ∧ fnD D u ≠ -2)) ∧ (0 ≤ dk → Up (fnD D) u dk)) ∧ Aside0 (Below w6.heap.size w6 W))
                case atStart => exact ⟨(i : Int), rfl, ⟨Nat.le_refl _, .inr HIR.out, HUP.out⟩, ⟨by rw [hw6]; exact Below.refl _ _⟩⟩
                case round =>
                  clear hw6
                  obtain ⟨u, rfl, HU, HBu⟩ := hrel
                  have hxk := (HBu.out.cell (World.block_lt_of_cell? w6 _ HXK.out)).trans HXK.out
                  have hBx := HBi.out.trans (below_cut (HBj.out.trans (below_cut HBu.out HBj.out.size)) HBi.out.size)
                  by_cases h3 : u ≥ 0
                  · have d3 : decide (u ≥ 0) = true := decide_eq_true h3
                    have d3b : decide (0 ≤ u) = true := d3
                    have hur := HU.out.2.1.resolve_left (by omega)
                    by_cases h4 : u = dk
                    · have d4 : (u == dk) = true := by rw [beq_iff_eq]; exact h4
                      have d4b : (u != dk) = false := by rw [bne, d4]; rfl
                      have d5 : (dk == -2) = false := by rw [beq_eq_false_iff_ne]; omega
                      have d6 : decide (dk ≥ 0) = true := decide_eq_true (by omega)
                      have d6b : decide (0 ≤ dk) = true := d6
                      clear h3 h4 hur hBx
                      go_wp2_with fail
                      go_roundg (l.length - (j + 1))
                      case measure => have := HJQ.out; have := HLJ.out; omega
                      case rel => exact ⟨j + 1, by first | rfl | rw [HJW.out], ⟨by have := HLJ.out; omega, rfl⟩, ⟨HBj.out.trans (below_cut HBu.out HBj.out.size)⟩⟩
                    · have d4 : (u == dk) = false := beq_eq_false_iff_ne.mpr h4
                      have d4b : (u != dk) = true := by rw [bne, d4]; rfl
                      have hug := rpo_in HG.out u hur.1
                      obtain ⟨adD3, eD3, hxu⟩ := at_doms (Kd.C_below HCk.out.2 hBx) hug.1 (by rw [HL.out]; exact hug.2)
                      obtain rfl : adD = adD3 := Option.some.inj eD3
                      have u0 : (0 : Int) ≤ u := hug.1
                      have u1 : u < (D.length : Int) := by rw [HL.out]; exact hug.2
                      have H4 := Aside0.mk h4
                      have HUR := Aside0.mk hur
                      clear h3 h4 hur hug hBx eD3
                      go_wp2_with fail
                      go_roundg (gk - 1)
                      case measure =>
                        have h_ := HU.out.1
                        unfold upz at h_
                        rw [if_neg (by omega)] at h_
                        omega
                      case rel =>
                        obtain ⟨q1, q2⟩ := ok_dm (rp_ok HG.out) HD.out.wf HUR.out.1 HUR.out.2
                        refine ⟨fnD D u, rfl, ⟨?_, q1, fun q => ?_⟩, HBu⟩
                        · have h_ := HU.out.1
                          unfold upz at h_ ⊢
                          rw [if_neg (by omega)] at h_
                          split
                          · omega
                          · rename_i h5
                            have h6 := q2 (by omega)
                            have h7 := ((rp_ok HG.out).pos_bd (q1.resolve_left (by omega)).1).1
                            omega
                        · cases HU.out.2.2 q with
                          | refl _ => exact absurd rfl H4.out
                          | step _ h => exact h
                  · have d3 : decide (u ≥ 0) = false := decide_eq_false h3
                    have d3b : decide (0 ≤ u) = false := d3
                    have hdk : dk < 0 := by
                      by_cases q : 0 ≤ dk
                      · exact absurd (HU.out.2.2 q) (up_neg (by omega))
                      · omega
                    have d5 : (dk == -2) = false := by rw [beq_eq_false_iff_ne, HDK.out]; exact HKR.out.2
                    have d6 : decide (dk ≥ 0) = false := decide_eq_false (by omega)
                    have d6b : decide (0 ≤ dk) = false := d6
                    clear h3 hdk hBx
                    go_wp2_with fail
                    go_roundg (l.length - (j + 1))
                    case measure => have := HJQ.out; have := HLJ.out; omega
                    case rel => exact ⟨j + 1, by first | rfl | rw [HJW.out], ⟨by have := HLJ.out; omega, rfl⟩, ⟨HBj.out.trans (below_cut HBu.out HBj.out.size)⟩⟩
              · have e_ : j = l.length := by have := HJQ.out; omega
                subst e_
                have hjec : decide ((l.length : Int) < (l.length : Int)) = false := decide_eq_false (by omega)
                have hjec2 : decide (l.length < l.length) = false := decide_eq_false hlj
                clear hlj
                go_wp2_with fail
                go_roundg (has.length - (i + 1))
                case measure => have := HIQ.out; have := HLT.out; omega
                case rel => exact ⟨i + 1, by first | rfl | rw [HIW.out], ⟨by have := HLT.out; omega, rfl⟩, ⟨HBi.out.trans (below_cut HBj.out HBi.out.size)⟩⟩
          · have e_ : i = has.length := by have := HIQ.out; omega
            subst e_
            have hdec : decide ((has.length : Int) < (has.length : Int)) = false := decide_eq_false (by omega)
            have hdec2 : decide (has.length < has.length) = false := decide_eq_false hlt
            clear hlt
            go_wp2_with fail
            refine (owned_calls _).mono ?_
            rintro e w7 ⟨rfl, hb7⟩
            have HB7 := Aside0.mk (below_step HBw.out hb7)
            clear hb7
            go_wp2_with fail
            go_ret
            exact ⟨rfl, HB7.out⟩
  · have hv := hbad h0
    subst hv
    have he : (checkE has roots != 0) = true := bne_iff_ne.mpr h0
    clear hbad hok h0
    generalize checkE has roots = ck at he ⊢
    go_wp2_with fail
    refine (owned_calls _).mono ?_
    rintro e w4 ⟨rfl, hb4⟩
    have HB4 := Aside0.mk (below_step HB3.out hb4)
    clear hb4
    have hz : ((0 : Int) == 0) = true := by decide
    go_wp2_with fail
    go_ret
    exact ⟨rfl, HB4.out⟩
end Go.Proofs.Ytoleplbmkdhgeaa.Own
