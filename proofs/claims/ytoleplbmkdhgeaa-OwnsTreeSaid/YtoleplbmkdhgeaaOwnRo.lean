/- Package owns walked: round. -/
import Derived.Test.YtoleplbmkdhgeaaOwnMe
set_option linter.unusedVariables false
set_option linter.unusedSimpArgs false
namespace Go.Proofs.Ytoleplbmkdhgeaa.Own
open Go.RowKit Go.Proofs.YtoleplbmkdhgeaaW.PrintWords Go.Proofs.YtoleplbmkdhgeaaW.PrintLast Go.Proofs.YtoleplbmkdhgeaaW.PrintMore Go.Proofs.Ytoleplbmkdhgeaa.PN Go.Proofs.Ytoleplbmkdhgeaa.Hnd Go.Lib

/-- The tree's lists when the rounds begin. -/
def sR (has : List (List Int)) (roots : List Int) : Ds := ⟨placeL has roots, rpoL has roots, fromR has roots⟩
def posR (has : List (List Int)) (roots : List Int) : Int → Int := posF (placeL has roots)
def prdR (has : List (List Int)) (roots : List Int) : Int → List Int := rowF (fromR has roots)
def stp (has : List (List Int)) (roots : List Int) (D : List Int) (i : Nat) : List Int × Bool := ((rpoL has roots).take i).foldl (stepL (posR has roots) (prdR has roots) (bigK has)) (D, false)
theorem stp_succ (has : List (List Int)) (roots D : List Int) {i : Nat} (h : i < (rpoL has roots).length) : stp has roots D (i + 1) = stepL (posR has roots) (prdR has roots) (bigK has) (stp has roots D i) (rpoL has roots)[i] := by
  unfold stp
  rw [List.take_succ_eq_append_getElem h, List.foldl_append]
  rfl
theorem stp_all (has : List (List Int)) (roots D : List Int) : stp has roots D (rpoL has roots).length = roundL (posF (placeL has roots)) (rowF (fromR has roots)) (bigK has) (rpoL has roots) D := by
  unfold stp
  rw [List.take_length]
  rfl
theorem stp_ok {has : List (List Int)} {roots : List Int} (G : Gr has roots) {r : Nat} {D : List Int} (h : Rd has roots r D) {i : Nat} (hi : i ≤ (rpoL has roots).length) : Wf (rpoL has roots) (posR has roots) (fnD (stp has roots D i).1) ∧ (stp has roots D i).1.length = has.length := by
  have R := rp_ok G
  have hK : 2 * (rpoL has roots).length ≤ bigK has := by have := rpo_le G; unfold bigK; omega
  have h0 := h.inv.part R hK i hi
  obtain ⟨h1, h2⟩ := foldL_fn (pos := posF (placeL has roots)) (prd := rowF (fromR has roots)) (K := bigK has) ((rpoL has roots).take i) (D, false) (fun x hx => by show 0 ≤ x ∧ x < (D.length : Int); rw [h.len]; exact rpo_in G x (List.mem_of_mem_take hx))
  have h1' : ((rpoL has roots).take i).foldl (stepF (posF (placeL has roots)) (rowF (fromR has roots)) (bigK has)) (fnD D, false) = (fnD (stp has roots D i).1, (stp has roots D i).2) := h1
  rw [h1'] at h0
  exact ⟨h0.wf, by rw [← h.len]; exact h2⟩
theorem at1_skip {pos dm : Int → Int} {K : Nat} {a k : Int} (h1 : k ≠ -1) (h2 : dm k = -2) : at1 pos dm K a k = a := by unfold at1; rw [if_pos ⟨h1, h2⟩]
theorem at1_first {pos dm : Int → Int} {K : Nat} {k : Int} (h : ¬ (k ≠ -1 ∧ dm k = -2)) : at1 pos dm K (-2) k = k := by unfold at1; rw [if_neg h, if_pos rfl]
theorem at1_meet {pos dm : Int → Int} {K : Nat} {a k : Int} (h : ¬ (k ≠ -1 ∧ dm k = -2)) (h2 : a ≠ -2) : at1 pos dm K a k = meetF pos dm K a k := by unfold at1; rw [if_neg h, if_neg h2]
theorem ati_succ (pos dm : Int → Int) (K : Nat) (l : List Int) {j : Nat} (h : j < l.length) : atF pos dm K (l.take (j + 1)) = at1 pos dm K (atF pos dm K (l.take j)) l[j] := by
  unfold atF
  rw [List.take_succ_eq_append_getElem h, List.foldl_append]
  rfl
theorem rdI (l : List Int) (i : Nat) (h : i < l.length) : rd l (i : Int) = l[i] := by unfold rd; simp [List.getD_eq_getElem?_getD, h]
set_option maxHeartbeats 32000000 in
set_option maxRecDepth 100000 in
theorem round_calls (W : World) {B g : Nat} {h0 h1 vP vo vF vD : Value} {ps : List Value} {has : List (List Int)} {roots : List Int} {D : List Int} {r : Nat} (G : Gr has roots) (hN : has.length ≤ 1000000) (hF : ∀ k, 0 ≤ k → (rowF (fromR has roots) k).length ≤ 1000000) (hr : Rd has roots r D) (h : OS W B g h0 h1 vP vo vF vD ps has.length (sR has roots) D) :
    Calls Try.prog 58 #[.pointer (some ⟨g, 0, none⟩)] W fun e w' => e = .returned (.bool (stp has roots D (rpoL has roots).length).2) ∧ OS w' B g h0 h1 vP vo vF vD ps has.length (sR has roots) (stp has roots D (rpoL has roots).length).1 ∧ Below B W w' := by
  obtain ⟨Ao, co, eo, hco, hCo⟩ := h.ordC
  have hL : (sR has roots).ord.length = (rpoL has roots).length := rfl
  rw [hL] at eo
  subst eo
  have HO := Aside0.mk h
  have HG := Aside0.mk G
  have HR := Aside0.mk hr
  have HN : Aside0 ((rpoL has roots).length ≤ has.length ∧ has.length ≤ 1000000) := ⟨⟨rpo_le G, hN⟩⟩
  have HF := Aside0.mk hF
  have c3 := h.c3
  clear h G hr hN hF hco hCo hL
  go_enter Try.func58, Try.ntmps58
  go_wp2_with fail
  clear c3
  go_loopg [3, 14] (rpoL has roots).length (fun kq v3 v14 w' => ∃ i : Nat, v14 = .int .i64 (i : Int) ∧ v3 = .bool (stp has roots D i).2 ∧ Aside0 (i ≤ (rpoL has roots).length ∧ kq = (rpoL has roots).length - i) ∧ Aside0 (OS w' B g h0 h1 vP (.slice Ao (rpoL has roots).length co) vF vD ps has.length (sR has roots) (stp has roots D i).1) ∧ Aside0 (Below B W w'))
  case atStart => exact ⟨0, rfl, rfl, ⟨Nat.zero_le _, by omega⟩, ⟨HO.out⟩, ⟨Below.refl _ _⟩⟩
  case round =>
    obtain ⟨i, rfl, rfl, HIQ, HOi, HBi⟩ := hrel
    by_cases hlt : i < (rpoL has roots).length
    · have hi0 : (0 : Int) ≤ (i : Int) := by omega
      have hi1 : (i : Int) < ((rpoL has roots).length : Int) := by omega
      obtain ⟨A2, c2, e2, hc2, hC2⟩ := HOi.out.ordC
      have e2' := (Value.slice.inj e2).1
      rw [← e2'] at hC2
      have hC2 : (Kd.int .i64).C wr Ao (rpoL has roots).length (rpoL has roots) := hC2
      obtain ⟨ad, e, hx⟩ := Kd.at_int hC2 (i : Int) (by omega) (by show (i : Int) < ((rpoL has roots).length : Int); exact hi1)
      rw [rdI (rpoL has roots) i hlt] at hx
      rw [Int.toNat_natCast] at hx
      subst e
      have hdec : decide ((i : Int) < ((rpoL has roots).length : Int)) = true := decide_eq_true hi1
      have hdec2 : decide (i < (rpoL has roots).length) = true := decide_eq_true hlt
      have HLT := Aside0.mk hlt
      have hnr := List.getElem_mem hlt
      have HST := Aside0.mk (stp_succ has roots D hlt)
      have HWF := Aside0.mk (stp_ok HG.out HR.out (Nat.le_of_lt hlt))
      generalize hn_ : (rpoL has roots)[i] = n at hx hnr HST
      clear hn_ e2 e2' hc2 hC2
      have hnn := rpo_in HG.out n hnr
      have HNR := Aside0.mk hnr
      obtain ⟨bF, cF, eF⟩ := HOi.out.sF (by omega)
      have hrw := HOi.out.rowC (i := n.toNat) (by omega)
      have kF := HOi.out.cellF eF (i := n.toNat) (by omega)
      rw [show ((n.toNat : Nat) : Int) = n from by omega] at hrw kF
      obtain ⟨AR, cR, eR, hcR, hCR⟩ := hrw
      rw [eR] at kF
      have c4 := HOi.out.c4
      rw [eF] at c4
      have n0 : (0 : Int) ≤ n := hnn.1
      have n1 : n < (has.length : Int) := hnn.2
      have HL := Aside0.mk hCR
      obtain ⟨l, hl⟩ : ∃ l, l = rowF (fromR has roots) n := ⟨_, rfl⟩
      have hl2 : rowF (sR has roots).fr n = l := hl.symm
      rw [hl2] at kF HL
      have HLZ : Aside0 (l.length ≤ 1000000) := ⟨by rw [hl]; exact HF.out n n0⟩
      have HLP : Aside0 (∀ k ∈ l, k = -1 ∨ k ∈ rpoL has roots) := ⟨fun k hk => prd_in (rp_ok HG.out) hnr k (by rw [hl] at hk; exact hk)⟩
      have HLE : Aside0 (prdR has roots n = l) := ⟨hl.symm⟩
      have HNI := Aside0.mk (And.intro n0 n1)
      clear hlt hnr hnn eR hcR hCR hl hl2
      obtain ⟨wo, rfl⟩ : ∃ wo, wo = wr := ⟨wr, rfl⟩
      go_wp2_with fail
      clear kF c4 hx
      obtain ⟨dm, hdm⟩ : ∃ dm, dm = fnD (stp has roots D i).1 := ⟨_, rfl⟩
      have HDM := Aside0.mk hdm
      clear hdm
      have HW2 : Aside0 (Wf (rpoL has roots) (posR has roots) dm) := ⟨by rw [HDM.out]; exact HWF.out.1⟩
      have HK2 : Aside0 (2 * (rpoL has roots).length ≤ bigK has) := ⟨by have := HN.out.1; unfold bigK; omega⟩
      go_loopg [6, 26] l.length (fun kq v6 v26 w' => ∃ j : Nat, v26 = .int .i64 (j : Int) ∧ v6 = .int .i64 (atF (posR has roots) dm (bigK has) (l.take j)) ∧ Aside0 (j ≤ l.length ∧ kq = l.length - j) ∧ Aside0 (Below wo.heap.size wo w'))
      case atStart => exact ⟨0, rfl, rfl, ⟨Nat.zero_le _, by omega⟩, ⟨Below.refl _ _⟩⟩
      case round =>
        obtain ⟨j, rfl, rfl, HJQ, HBj⟩ := hrel
        have HOj := Aside0.mk (HOi.out.below HBj.out)
        by_cases hlj : j < l.length
        · have hj0 : (0 : Int) ≤ (j : Int) := by omega
          have hj1 : (j : Int) < (l.length : Int) := by omega
          obtain ⟨ad2, e, hy⟩ := Kd.at_int (Kd.C_below HL.out HBj.out) (j : Int) (by omega) (by omega)
          rw [rdI l j hlj] at hy
          rw [Int.toNat_natCast] at hy
          subst e
          have hjec : decide ((j : Int) < (l.length : Int)) = true := decide_eq_true hj1
          have hjec2 : decide (j < l.length) = true := decide_eq_true hlj
          have HLJ := Aside0.mk hlj
          have HJW : Aside0 (wrap64 ((j : Int) + 1) = ((j + 1 : Nat) : Int)) := ⟨by have := HLZ.out; unfold wrap64; omega⟩
          have HAS := Aside0.mk (ati_succ (posR has roots) dm (bigK has) l hlj)
          have hkp := HLP.out l[j] (List.getElem_mem hlj)
          have hat := at_ok (rp_ok HG.out) HW2.out HK2.out (l.take j) (-2) (.inl rfl) (fun k hk => HLP.out k (List.mem_of_mem_take hk))
          have HAT : Aside0 (atF (posR has roots) dm (bigK has) (l.take j) ≠ -2 → Ok (rpoL has roots) dm (atF (posR has roots) dm (bigK has) (l.take j))) := ⟨fun hne => by
            rcases hat with ⟨_, q⟩ | ⟨q, _⟩
            · exact absurd q hne
            · exact q⟩
          clear hat
          generalize atF (posR has roots) dm (bigK has) (l.take j) = a at HAS HAT ⊢
          generalize l[j] = k at hy hkp HAS
          have HKP := Aside0.mk hkp
          clear hlj hkp
          by_cases h1 : k = -1
          · have d1 : (k == -1) = true := by rw [beq_iff_eq]; exact h1
            have d1b : (k != -1) = false := by rw [bne, d1]; rfl
            have HNA : Aside0 (¬ (k ≠ -1 ∧ dm k = -2)) := ⟨fun q => q.1 h1⟩
            clear h1
            by_cases h3 : a = -2
            · have d3 : (a == -2) = true := by rw [beq_iff_eq]; exact h3
              have HV : Aside0 (atF (posR has roots) dm (bigK has) (l.take (j + 1)) = k) := ⟨by rw [HAS.out, h3, at1_first HNA.out]⟩
              clear h3
              go_wp2_with fail
              go_roundg (l.length - (j + 1))
              case measure => have := HJQ.out; have := HLJ.out; omega
              case rel => exact ⟨j + 1, by first | rfl | rw [HJW.out], by rw [HV.out], ⟨by have := HLJ.out; omega, rfl⟩, HBj⟩
            · have d3 : (a == -2) = false := beq_eq_false_iff_ne.mpr h3
              have HV : Aside0 (atF (posR has roots) dm (bigK has) (l.take (j + 1)) = meetF (posR has roots) dm (bigK has) a k) := ⟨by rw [HAS.out, at1_meet HNA.out h3]⟩
              have HAO := Aside0.mk (HAT.out h3)
              have HKO := Aside0.mk (act_ok (rp_ok HG.out) HW2.out HKP.out (show Act dm k from HNA.out))
              have hcall := meet_calls _ HOj.out (rp_ok HG.out) (by have h_ := HWF.out.1; exact h_) (fun x hx => rpo_in HG.out x hx) (bigK has) a k (by have h_ := HAO.out; rw [HDM.out] at h_; exact h_) (by have h_ := HKO.out; rw [HDM.out] at h_; exact h_) (by have h2_ := ok_len (rp_ok HG.out) HW2.out HAO.out; have h3_ := ok_len (rp_ok HG.out) HW2.out HKO.out; have h4_ := HK2.out; exact Nat.le_trans (Nat.add_le_add h2_ h3_) (by omega))
              rw [← HDM.out] at hcall
              have hcall2 : Calls Try.prog 65 #[.pointer (some ⟨g, 0, none⟩), .int .i64 a, .int .i64 k] wr fun e w' => e = .returned (.int .i64 (meetF (posR has roots) dm (bigK has) a k)) ∧ Below wr.heap.size wr w' := hcall
              have HCALL := Aside0.mk hcall2
              clear h3 hcall hcall2
              go_wp2_with fail
              refine HCALL.out.mono ?_
              rintro e w9 ⟨rfl, hb9⟩
              have HB9 := Aside0.mk (below_step HBj.out hb9)
              clear hb9 HCALL
              go_wp2_with fail
              go_roundg (l.length - (j + 1))
              case measure => have := HJQ.out; have := HLJ.out; omega
              case rel => exact ⟨j + 1, by first | rfl | rw [HJW.out], by rw [HV.out], ⟨by have := HLJ.out; omega, rfl⟩, HB9⟩
          · have d1 : (k == -1) = false := beq_eq_false_iff_ne.mpr h1
            have d1b : (k != -1) = true := by rw [bne, d1]; rfl
            have hkr := HKP.out.resolve_left h1
            have hkn := rpo_in HG.out k hkr
            obtain ⟨bD, cD, eD⟩ := HOj.out.sD (by omega)
            have c5 := HOj.out.c5
            rw [eD] at c5
            have qk := HOj.out.cellD eD (i := k.toNat) (by omega)
            rw [← fnD_at _ hkn.1, ← HDM.out] at qk
            have k0 : (0 : Int) ≤ k := hkn.1
            have k1 : k < (has.length : Int) := hkn.2
            have H1 := Aside0.mk h1
            clear h1 hkr hkn
            by_cases h2 : dm k = -2
            · have d2 : (dm k == -2) = true := by rw [beq_iff_eq]; exact h2
              have HV : Aside0 (atF (posR has roots) dm (bigK has) (l.take (j + 1)) = a) := ⟨by rw [HAS.out, at1_skip H1.out h2]⟩
              clear h2
              go_wp2_with fail
              go_roundg (l.length - (j + 1))
              case measure => have := HJQ.out; have := HLJ.out; omega
              case rel => exact ⟨j + 1, by first | rfl | rw [HJW.out], by rw [HV.out], ⟨by have := HLJ.out; omega, rfl⟩, HBj⟩
            · have d2 : (dm k == -2) = false := beq_eq_false_iff_ne.mpr h2
              have HNA : Aside0 (¬ (k ≠ -1 ∧ dm k = -2)) := ⟨fun q => h2 q.2⟩
              clear h2
              by_cases h3 : a = -2
              · have d3 : (a == -2) = true := by rw [beq_iff_eq]; exact h3
                have HV : Aside0 (atF (posR has roots) dm (bigK has) (l.take (j + 1)) = k) := ⟨by rw [HAS.out, h3, at1_first HNA.out]⟩
                clear h3
                go_wp2_with fail
                go_roundg (l.length - (j + 1))
                case measure => have := HJQ.out; have := HLJ.out; omega
                case rel => exact ⟨j + 1, by first | rfl | rw [HJW.out], by rw [HV.out], ⟨by have := HLJ.out; omega, rfl⟩, HBj⟩
              · have d3 : (a == -2) = false := beq_eq_false_iff_ne.mpr h3
                have HV : Aside0 (atF (posR has roots) dm (bigK has) (l.take (j + 1)) = meetF (posR has roots) dm (bigK has) a k) := ⟨by rw [HAS.out, at1_meet HNA.out h3]⟩
                have HAO := Aside0.mk (HAT.out h3)
                have HKO := Aside0.mk (act_ok (rp_ok HG.out) HW2.out HKP.out (show Act dm k from HNA.out))
                have hcall := meet_calls _ HOj.out (rp_ok HG.out) (by have h_ := HWF.out.1; exact h_) (fun x hx => rpo_in HG.out x hx) (bigK has) a k (by have h_ := HAO.out; rw [HDM.out] at h_; exact h_) (by have h_ := HKO.out; rw [HDM.out] at h_; exact h_) (by have h2_ := ok_len (rp_ok HG.out) HW2.out HAO.out; have h3_ := ok_len (rp_ok HG.out) HW2.out HKO.out; have h4_ := HK2.out; exact Nat.le_trans (Nat.add_le_add h2_ h3_) (by omega))
                rw [← HDM.out] at hcall
                have hcall2 : Calls Try.prog 65 #[.pointer (some ⟨g, 0, none⟩), .int .i64 a, .int .i64 k] wr fun e w' => e = .returned (.int .i64 (meetF (posR has roots) dm (bigK has) a k)) ∧ Below wr.heap.size wr w' := hcall
                have HCALL := Aside0.mk hcall2
                clear h3 hcall hcall2
                go_wp2_with fail
                refine HCALL.out.mono ?_
                rintro e w9 ⟨rfl, hb9⟩
                have HB9 := Aside0.mk (below_step HBj.out hb9)
                clear hb9 HCALL
                go_wp2_with fail
                go_roundg (l.length - (j + 1))
                case measure => have := HJQ.out; have := HLJ.out; omega
                case rel => exact ⟨j + 1, by first | rfl | rw [HJW.out], by rw [HV.out], ⟨by have := HLJ.out; omega, rfl⟩, HB9⟩
        · have e_ : j = l.length := by have := HJQ.out; omega
          subst e_
          have hjec : decide ((l.length : Int) < (l.length : Int)) = false := decide_eq_false (by omega)
          have hjec2 : decide (l.length < l.length) = false := decide_eq_false hlj
          have HBk : Aside0 (Below B W wr) := ⟨HBi.out.trans (below_cut HBj.out (by have h_ := HOi.out.gB; have h2_ := blk_lt HOi.out.obj; omega))⟩
          have HIW : Aside0 (wrap64 ((i : Int) + 1) = ((i + 1 : Nat) : Int)) := ⟨by have := HN.out; have := HLT.out; unfold wrap64; omega⟩
          rw [List.take_length]
          have HA : Aside0 (atF (posR has roots) (fnD (stp has roots D i).1) (bigK has) (prdR has roots n) = atF (posR has roots) dm (bigK has) l) := ⟨by rw [HLE.out, HDM.out]⟩
          generalize atF (posR has roots) dm (bigK has) l = a at HA ⊢
          clear hlj HJQ HBj
          by_cases h1 : a = -2
          · have d1 : (a == -2) = true := by rw [beq_iff_eq]; exact h1
            have d1b : (a != -2) = false := by rw [bne, d1]; rfl
            have HV : Aside0 (stp has roots D (i + 1) = stp has roots D i) := ⟨by rw [HST.out]; unfold stepL; rw [if_neg (fun q => q.1 (by rw [HA.out]; exact h1))]⟩
            clear h1
            go_wp2_with fail
            go_roundg ((rpoL has roots).length - (i + 1))
            case measure => have := HIQ.out; have := HLT.out; omega
            case rel => exact ⟨i + 1, by first | rfl | rw [HIW.out], by rw [HV.out], ⟨by have := HLT.out; omega, rfl⟩, ⟨by rw [HV.out]; exact HOj.out⟩, HBk⟩
          have d1 : (a == -2) = false := beq_eq_false_iff_ne.mpr h1
          have d1b : (a != -2) = true := by rw [bne, d1]; rfl
          have n0 : (0 : Int) ≤ n := HNI.out.1
          have n1 : n < (has.length : Int) := HNI.out.2
          obtain ⟨bD, cD, eD⟩ := HOj.out.sD (by omega)
          have c5 := HOj.out.c5
          rw [eD] at c5
          have qn := HOj.out.cellD eD (i := n.toNat) (by omega)
          rw [← fnD_at _ n0] at qn
          have fzn := HOj.out.fzD eD n.toNat
          have H1 := Aside0.mk h1
          have HED := Aside0.mk eD
          clear h1 eD
          obtain ⟨dn, hdn⟩ : ∃ dn, dn = fnD (stp has roots D i).1 n := ⟨_, rfl⟩
          rw [← hdn] at qn
          have HDN := Aside0.mk hdn
          clear hdn
          by_cases h2 : a = dn
          · have d2 : (a == dn) = true := by rw [beq_iff_eq]; exact h2
            have d2b : (a != dn) = false := by rw [bne, d2]; rfl
            have HV : Aside0 (stp has roots D (i + 1) = stp has roots D i) := ⟨by rw [HST.out]; unfold stepL; rw [if_neg (fun q => q.2 (by rw [HA.out, ← HDN.out]; exact h2))]⟩
            clear h2
            go_wp2_with fail
            go_roundg ((rpoL has roots).length - (i + 1))
            case measure => have := HIQ.out; have := HLT.out; omega
            case rel => exact ⟨i + 1, by first | rfl | rw [HIW.out], by rw [HV.out], ⟨by have := HLT.out; omega, rfl⟩, ⟨by rw [HV.out]; exact HOj.out⟩, HBk⟩
          · have d2 : (a == dn) = false := beq_eq_false_iff_ne.mpr h2
            have d2b : (a != dn) = true := by rw [bne, d2]; rfl
            have HV : Aside0 (stp has roots D (i + 1) = ((stp has roots D i).1.set n.toNat a, true)) := ⟨by rw [HST.out]; unfold stepL; rw [if_pos ⟨by rw [HA.out]; exact H1.out, by rw [HA.out, ← HDN.out]; exact h2⟩, HA.out]⟩
            clear h2
            go_wp2_with fail
            go_roundg ((rpoL has roots).length - (i + 1))
            case measure => have := HIQ.out; have := HLT.out; omega
            case rel => exact ⟨i + 1, by first | rfl | rw [HIW.out], by rw [HV.out], ⟨by have := HLT.out; omega, rfl⟩, ⟨by rw [HV.out]; exact HOj.out.setD HED.out n.toNat a⟩, ⟨HBk.out.setCell (p := ⟨bD, n.toNat, none⟩) (by have h_ := HOj.out.rd.lt bD (by rw [HED.out]; rfl); exact h_.1) _⟩⟩
    · have e_ : i = (rpoL has roots).length := by have := HIQ.out; omega
      subst e_
      have hdec : decide (((rpoL has roots).length : Int) < ((rpoL has roots).length : Int)) = false := decide_eq_false (by omega)
      have hdec2 : decide ((rpoL has roots).length < (rpoL has roots).length) = false := decide_eq_false hlt
      clear hlt HIQ
      go_wp2_with fail
      go_ret
      exact ⟨rfl, HOi.out, HBi.out⟩
end Go.Proofs.Ytoleplbmkdhgeaa.Own
