/- Package owns walked: Keeps. -/
import Derived.Test.YtoleplbmkdhgeaaOwnEg
set_option linter.unusedVariables false
set_option linter.unusedSimpArgs false
namespace Go.Proofs.Ytoleplbmkdhgeaa.Own
open Go.RowKit Go.Proofs.YtoleplbmkdhgeaaW.PrintWords Go.Proofs.YtoleplbmkdhgeaaW.PrintLast Go.Proofs.YtoleplbmkdhgeaaW.PrintMore Go.Proofs.Ytoleplbmkdhgeaa.PN Go.Proofs.Ytoleplbmkdhgeaa.Hnd Go.Lib Go.Proofs.Ytoleplbmkdhgeaa.Chk

theorem at_doms2 {W : World} {A : Option Addr} {ad : Addr} {D : List Int} (e : A = some ad) (h : (Kd.int .i64).C W A D.length D) {x : Int} (h0 : 0 ≤ x) (h1 : x < (D.length : Int)) : W.cell? (ad.add x.toNat) = some (.int .i64 (fnD D x)) := by
  obtain ⟨a, e2, hx⟩ := at_doms h h0 h1
  rw [e] at e2
  rw [Option.some.inj e2]
  exact hx
open Classical in
/-- What a thing keeps, of the first m. -/
noncomputable def keepTo (rpo : List Int) (dm : Int → Int) (n : Int) (m : Nat) : List Int := ((List.range m).filter (fun k : Nat => decide ((k : Int) ∈ rpo ∧ Up dm (k : Int) n))).map (fun k : Nat => (k : Int))
theorem keepTo_succ (rpo : List Int) (dm : Int → Int) (n : Int) (m : Nat) : keepTo rpo dm n (m + 1) = keepTo rpo dm n m ++ (open Classical in if (m : Int) ∈ rpo ∧ Up dm (m : Int) n then [(m : Int)] else []) := by
  unfold keepTo
  classical
  rw [List.range_succ, List.filter_append, List.map_append]
  congr 1
  rw [List.filter_cons]
  by_cases h : (m : Int) ∈ rpo ∧ Up dm (m : Int) n
  · simp [h]
  · simp [h]
theorem keepTo_len (rpo : List Int) (dm : Int → Int) (n : Int) (m : Nat) : (keepTo rpo dm n m).length ≤ m := by
  unfold keepTo
  rw [List.length_map]
  exact Nat.le_trans (List.length_filter_le _ _) (by simp)
open Classical in
theorem mem_keepTo {rpo : List Int} {dm : Int → Int} {n : Int} {m : Nat} {x : Int} : x ∈ keepTo rpo dm n m ↔ (0 ≤ x ∧ x < (m : Int)) ∧ x ∈ rpo ∧ Up dm x n := by
  unfold keepTo
  rw [List.mem_map]
  constructor
  · rintro ⟨k, hk, rfl⟩
    rw [List.mem_filter, List.mem_range] at hk
    exact ⟨by omega, of_decide_eq_true hk.2⟩
  · rintro ⟨h1, h2, h3⟩
    refine ⟨x.toNat, ?_, by omega⟩
    rw [List.mem_filter, List.mem_range]
    refine ⟨by omega, decide_eq_true ?_⟩
    rw [show ((x.toNat : Nat) : Int) = x from by omega]
    exact ⟨h2, h3⟩
/-- The thing itself is above none of its own. -/
theorem up_self {rpo : List Int} {root : Int → Prop} {edge : Int → Int → Prop} {pos : Int → Int} {prd : Int → List Int} (R : Rp root edge rpo pos prd) {dm : Int → Int} (W : Wf rpo pos dm) {n : Int} (hn : n ∈ rpo) (h2 : dm n ≠ -2) : ¬ Up dm (dm n) n := by
  intro h
  obtain ⟨h3, h4⟩ := ok_dm R W hn h2
  rcases h3 with h3 | ⟨h3, h5⟩
  · rw [h3] at h; exact absurd h (up_neg (by decide))
  · have := (up_pos R W h h3 h5).2.2
    have := h4 (by have := R.nn _ h3; omega)
    omega
noncomputable def keepE (has : List (List Int)) (roots : List Int) (n : Int) : Int := if checkE has roots ≠ 0 then checkE has roots else if 0 ≤ n ∧ n < (has.length : Int) then 0 else 5
set_option maxHeartbeats 32000000 in
set_option maxRecDepth 100000 in
theorem Keeps_calls (W : World) (has : List (List Int)) (roots : List Int) (AH : Option Addr) (cH : Nat) (AR : Option Addr) (cR : Nat) (n : Int) (hH : Kd.C (Kd.slice 3 (Kd.int .i64)) W AH has.length has) (hcH : has.length ≤ cH) (hR : Kd.C (Kd.int .i64) W AR roots.length roots) (hcR : roots.length ≤ cR) :
    Calls Try.prog 26 #[.agg #[.slice AH has.length cH, .slice AR roots.length cR], .int .i64 n] W fun e w' => ∃ v, e = .returned (.tuple #[v, .int .i64 (keepE has roots n)]) ∧ (keepE has roots n ≠ 0 → v = .slice none 0 0) ∧ (keepE has roots n = 0 → checkE has roots = 0 ∧ (0 ≤ n ∧ n < (has.length : Int)) ∧ ∃ D A c, DoneG has roots D ∧ v = .slice A (keepTo (rpoL has roots) (fnD D) n has.length).length c ∧ Kd.R (Kd.int .i64) 3 w' W.heap.size (fun _ => True) v (keepTo (rpoL has roots) (fnD D) n has.length)) ∧ Below W.heap.size W w' := by
  obtain ⟨o1, ho1⟩ : ∃ ob, ob = Obj.cells #[.slice AH has.length cH, .slice AR roots.length cR] 25 := ⟨_, rfl⟩
  have hal := below_alloc (Below.refl W.heap.size W) o1
  have HB := Aside0.mk hal
  have HC : Aside0 ((W.alloc o1).heap[W.heap.size]? = some (.cells #[.slice AH has.length cH, .slice AR roots.length cR] 25 (0, 0))) := ⟨by rw [ho1]; exact blk_new W _⟩
  have HH := Aside0.mk (And.intro hH hcH)
  have HR := Aside0.mk (And.intro hR hcR)
  obtain ⟨ck, hck⟩ : ∃ ck, ck = checkE has roots := ⟨_, rfl⟩
  obtain ⟨ke, hke⟩ : ∃ ke, ke = keepE has roots n := ⟨_, rfl⟩
  rw [← hke, ← hck]
  have HKE : Aside0 (ke = if ck ≠ 0 then ck else if 0 ≤ n ∧ n < (has.length : Int) then 0 else 5) := ⟨by rw [hke, hck]; rfl⟩
  have HCK := Aside0.mk hck
  clear hal hH hcH hR hcR hck hke
  go_enter Try.func26, Try.ntmps26
  go_upto_region 1 with fail
  rw [← ho1]
  clear ho1
  generalize W.alloc o1 = w1 at HB HC ⊢
  have y0 := (blk_cell HC.out 0).trans rfl
  have y1 := (blk_cell HC.out 1).trans rfl
  go_wp2_with fail
  refine (check_calls w1 has roots AH cH AR cR (Kd.C_below HH.out.1 HB.out) HH.out.2 (Kd.C_below HR.out.1 HB.out) HR.out.2).mono ?_
  rintro e w2 ⟨rfl, hb2⟩
  rw [← HCK.out]
  have HB2 := Aside0.mk (below_step HB.out hb2)
  have HC2 := Aside0.mk (blk_below HC.out hb2)
  clear hb2 HB HC y0 y1
  by_cases h0 : ck = 0
  case neg =>
    have hed : (ck != 0) = true := bne_iff_ne.mpr h0
    have H0 := Aside0.mk h0
    have HV : Aside0 (ke = ck) := ⟨by rw [HKE.out, if_pos h0]⟩
    clear h0
    go_wp2_with fail
    go_ret2
    rw [HV.out]
    exact ⟨_, rfl, fun _ => rfl, fun h => absurd h H0.out, HB2.out⟩
  have hed : (ck != 0) = false := by rw [h0]; decide
  have H0 := Aside0.mk h0
  have HKE2 : Aside0 (ke = if 0 ≤ n ∧ n < (has.length : Int) then 0 else 5) := ⟨by rw [HKE.out, if_neg (fun q => q h0)]⟩
  clear h0 HKE
  have y0 := (blk_cell HC2.out 0).trans rfl
  have y1 := (blk_cell HC2.out 1).trans rfl
  by_cases hn0 : n < 0
  · have d0 : decide (n < 0) = true := decide_eq_true hn0
    have HV : Aside0 (ke = 5) := ⟨by rw [HKE2.out, if_neg (by omega)]⟩
    clear hn0
    go_wp2_with fail
    go_ret2
    rw [HV.out]
    exact ⟨_, rfl, fun _ => rfl, fun h => absurd h (by decide), HB2.out⟩
  have d0 : decide (n < 0) = false := decide_eq_false hn0
  by_cases hn1 : n ≥ (has.length : Int)
  · have d1 : decide (n ≥ (has.length : Int)) = true := decide_eq_true hn1
    have d1b : decide ((has.length : Int) ≤ n) = true := d1
    have HV : Aside0 (ke = 5) := ⟨by rw [HKE2.out, if_neg (by omega)]⟩
    clear hn0 hn1
    go_wp2_with fail
    go_ret2
    rw [HV.out]
    exact ⟨_, rfl, fun _ => rfl, fun h => absurd h (by decide), HB2.out⟩
  have d1 : decide (n ≥ (has.length : Int)) = false := decide_eq_false hn1
  have d1b : decide ((has.length : Int) ≤ n) = false := d1
  have HNR : Aside0 (0 ≤ n ∧ n < (has.length : Int)) := ⟨by omega, by omega⟩
  have HV : Aside0 (ke = 0) := ⟨by rw [HKE2.out, if_pos (by omega)]⟩
  clear hn0 hn1 HKE2
  obtain ⟨g1, g2, g3, g4⟩ := gr_of (HCK.out.symm.trans H0.out)
  have HN4 := Aside0.mk (And.intro g2 g3)
  have HG := Aside0.mk g1
  have hcall := doms_calls w2 AH cH AR cR (Kd.C_below HH.out.1 HB2.out) (Kd.C_below HR.out.1 HB2.out) g1 g2 g3 g4
  have HCALL := Aside0.mk hcall
  clear hcall g1 g2 g3 g4
  go_wp2_with fail
  refine HCALL.out.mono ?_
  rintro e w3 ⟨g, vP, vo, vF, vD, ps, D, rfl, hO, hD, hb3⟩
  have hob := hO.obj
  obtain ⟨AD, cD, eD, hcD⟩ := own_shape hO.rd
  subst eD
  have HL : Aside0 (D.length = has.length) := ⟨hO.ld⟩
  have HOB := Aside0.mk hob
  have HCD : Aside0 ((Kd.int .i64).C w3 AD D.length D) := ⟨(Kd.R_reads' (Kd.R_of_own (enc := Value.int .i64) (h1 := fun _ => rfl) (ok := fun _ => True) (xs := D) (by rw [hO.ld]; exact hO.rd) (fun _ _ => trivial))).2.2⟩
  have HD := Aside0.mk hD
  have HB3 := Aside0.mk (below_step HB2.out hb3)
  clear hO hD hb3 hcD HCALL y0 y1 hob HC2
  have c5 := (blk_cell HOB.out 5).trans rfl
  go_wp2_with fail
  clear c5 d0 d1 d1b
  have HU := Try.underlying23
  go_loopg [8, 32] has.length (fun kq v8 v32 w' => ∃ (i : Nat) (A : Option Addr) (c : Nat), v32 = .int .i64 (i : Int) ∧ v8 = .slice A (keepTo (rpoL has roots) (fnD D) n i).length c ∧ Aside0 (i ≤ has.length ∧ kq = has.length - i) ∧ Aside0 (w'.ownsRow w3.heap.size 3 1 (.slice A (keepTo (rpoL has roots) (fnD D) n i).length c) (keepTo (rpoL has roots) (fnD D) n i).length (nums .i64 (keepTo (rpoL has roots) (fnD D) n i))) ∧ Aside0 (Below w3.heap.size w3 w'))
  case atStart => exact ⟨0, none, 0, rfl, rfl, ⟨Nat.zero_le _, by omega⟩, ⟨⟨by simp [keepTo, nums], .inl ⟨rfl, rfl⟩⟩⟩, ⟨Below.refl _ _⟩⟩
  case round =>
    obtain ⟨i, A, c, rfl, rfl, HIQ, HO, HBi⟩ := hrel
    by_cases hlt : i < has.length
    · have hi0 : (0 : Int) ≤ (i : Int) := by omega
      have hi1 : (i : Int) < (has.length : Int) := by omega
      have hdec : decide ((i : Int) < (has.length : Int)) = true := decide_eq_true hi1
      have hdec2 : decide (i < has.length) = true := decide_eq_true hlt
      have HLT := Aside0.mk hlt
      have HIW : Aside0 (wrap64 ((i : Int) + 1) = ((i + 1 : Nat) : Int)) := ⟨by have := HN4.out; unfold wrap64; omega⟩
      have HKS := Aside0.mk (keepTo_succ (rpoL has roots) (fnD D) n i)
      have HKL := Aside0.mk (keepTo_len (rpoL has roots) (fnD D) n i)
      generalize keepTo (rpoL has roots) (fnD D) n i = xs at HO HKS HKL ⊢
      obtain ⟨wo, hwo⟩ : ∃ wo, wo = wr := ⟨wr, rfl⟩
      rw [← hwo] at HO HBi
      go_wp2_with fail
      by_cases hk : (i : Int) ∈ rpoL has roots
      · have HKR := Aside0.mk (And.intro hk (HD.out.told _ hk))
        clear hk hlt
        go_loopg [8, 10] (upz (posF (placeL has roots)) (i : Int)) (fun kq v8 v10 w' => ∃ (u : Int) (A : Option Addr) (c : Nat) (ys : List Int), v10 = .int .i64 u ∧ v8 = .slice A ys.length c ∧ Aside0 (upz (posF (placeL has roots)) u ≤ kq ∧ (u = -1 ∨ (u ∈ rpoL has roots ∧ fnD D u ≠ -2)) ∧ (Up (fnD D) u n → Up (fnD D) (i : Int) n) ∧ ys = xs ++ (open Classical in if Up (fnD D) (i : Int) n ∧ ¬ Up (fnD D) u n then [(i : Int)] else [])) ∧ Aside0 (w'.ownsRow w3.heap.size 3 1 (.slice A ys.length c) ys.length (nums .i64 ys)) ∧ Aside0 (Below w3.heap.size w3 w'))
        case atStart => exact ⟨(i : Int), A, c, xs, rfl, rfl, ⟨Nat.le_refl _, .inr HKR.out, fun h => h, by rw [if_neg (fun q => q.2 q.1), List.append_nil]⟩, by rw [← hwo]; exact HO, by rw [← hwo]; exact HBi⟩
        case round =>
          clear hwo
          obtain ⟨u, A2, c2, ys, rfl, rfl, HU2, HOy, HBu⟩ := hrel
          have c5 := (blk_cell (blk_deeper HOB.out HBu.out (blk_lt HOB.out)) 5).trans rfl
          by_cases h3 : u ≥ 0
          · have d3 : decide (u ≥ 0) = true := decide_eq_true h3
            have d3b : decide (0 ≤ u) = true := d3
            have hur := HU2.out.2.1.resolve_left (by omega)
            have hug := rpo_in HG.out u hur.1
            obtain ⟨adD, eD, hxu⟩ := at_doms (Kd.C_below HCD.out HBu.out) hug.1 (by rw [HL.out]; exact hug.2)
            have d4 : (fnD D u == -2) = false := beq_eq_false_iff_ne.mpr hur.2
            have d4b : (fnD D u != -2) = true := by rw [bne, d4]; rfl
            have u0 : (0 : Int) ≤ u := hug.1
            have u1 : u < (has.length : Int) := hug.2
            have HUR := Aside0.mk hur
            have HED := Aside0.mk eD
            have HYL : Aside0 (ys.length ≤ 101) := ⟨by
              rw [HU2.out.2.2.2, List.length_append]
              have := HKL.out; have := HLT.out; have := HN4.out
              split <;> simp <;> omega⟩
            have HQ1 : Aside0 (upz (posF (placeL has roots)) (fnD D u) + 1 ≤ gk) := ⟨by
              obtain ⟨q1, q2⟩ := ok_dm (rp_ok HG.out) HD.out.wf hur.1 hur.2
              have h_ := HU2.out.1
              unfold upz at h_ ⊢
              rw [if_neg (by omega)] at h_
              split
              · omega
              · rename_i h5
                have h6 := q2 (by omega)
                have h7 := ((rp_ok HG.out).pos_bd (q1.resolve_left (by omega)).1).1
                omega⟩
            have HQ2 := Aside0.mk (ok_dm (rp_ok HG.out) HD.out.wf hur.1 hur.2).1
            have HNU := Aside0.mk (up_self (rp_ok HG.out) HD.out.wf hur.1 hur.2)
            rw [eD] at c5
            clear h3 hur hug eD
            by_cases h4 : u = n
            · have d5 : (u == n) = true := by rw [beq_iff_eq]; exact h4
              have HE := Aside0.mk h4
              have HYE : Aside0 (ys = xs) := ⟨by rw [HU2.out.2.2.2, if_neg (fun q => q.2 (by rw [h4]; exact .refl HNR.out.1)), List.append_nil]⟩
              have HUN : Aside0 (Up (fnD D) (i : Int) n) := ⟨HU2.out.2.2.1 (by rw [h4]; exact .refl HNR.out.1)⟩
              have HBS : Aside0 (w3.heap.size ≤ wr.heap.size) := ⟨HBu.out.size⟩
              clear h4
              go_wp2_with (((with_reducible refine gate_builtin (b := .append) (xs := #[.tmp 58, .tmp 60]) rfl ?_); (refine print_append_num (w0 := w3) w3.heap.size rfl (.tmp 58) (.tmp 60) 23 3 .i64 8 rfl HU infoI (by decide) (.slice A2 ys.length c2) ys (i : Int) rfl rfl HOy.out HBu.out HBS.out ?hl ?_; (case hl => have h_ := HYL.out; omega); intro v6 w6 ho hb hg hat; obtain ⟨A6, c6_, e6_, _⟩ := own_shape ho; subst e6_; have HO6 := Aside0.mk ho; have HB6 := Aside0.mk hb; have c5_ := (blk_cell (blk_deeper HOB.out hb (blk_lt HOB.out)) 5).trans rfl; rw [HED.out] at c5_; have hxu_ := at_doms2 HED.out (Kd.C_below HCD.out hb) u0 (by have h_ := HL.out; omega); clear ho hb hg hat)))
              go_roundg (gk - 1)
              case measure => have := HQ1.out; omega
              case rel =>
                refine ⟨fnD D u, A6, c6_, ys ++ [(i : Int)], rfl, by first | rfl | simp, ⟨by have := HQ1.out; omega, HQ2.out, fun q => ?_, ?_⟩, HO6, HB6⟩
                · exact HUN.out
                · rw [HYE.out, if_pos ⟨HUN.out, by rw [← HE.out]; exact HNU.out⟩]
            · have d5 : (u == n) = false := beq_eq_false_iff_ne.mpr h4
              have HE := Aside0.mk h4
              clear h4
              go_wp2_with fail
              go_roundg (gk - 1)
              case measure => have := HQ1.out; omega
              case rel =>
                have hiff : Up (fnD D) (fnD D u) n ↔ Up (fnD D) u n := by
                  constructor
                  · exact fun q => .step ((rp_ok HG.out).nn _ HUR.out.1) q
                  · intro q
                    cases q with
                    | refl _ => exact absurd rfl HE.out
                    | step _ q => exact q
                refine ⟨fnD D u, A2, c2, ys, rfl, rfl, ⟨by have := HQ1.out; omega, HQ2.out, fun q => HU2.out.2.2.1 (hiff.1 q), ?_⟩, HOy, HBu⟩
                rw [HU2.out.2.2.2]
                congr 1
                by_cases q : Up (fnD D) (i : Int) n ∧ ¬ Up (fnD D) u n
                · rw [if_pos q, if_pos ⟨q.1, fun q2 => q.2 (hiff.1 q2)⟩]
                · rw [if_neg q, if_neg (fun q2 => q ⟨q2.1, fun q3 => q2.2 (hiff.2 q3)⟩)]
          · have d3 : decide (u ≥ 0) = false := decide_eq_false h3
            have d3b : decide (0 ≤ u) = false := d3
            have HYE : Aside0 (keepTo (rpoL has roots) (fnD D) n (i + 1) = ys) := ⟨by
              rw [HKS.out, HU2.out.2.2.2]
              congr 1
              by_cases q : Up (fnD D) (i : Int) n
              · rw [if_pos ⟨HKR.out.1, q⟩, if_pos ⟨q, up_neg (by omega)⟩]
              · rw [if_neg (fun q2 => q q2.2), if_neg (fun q2 => q q2.1)]⟩
            clear h3
            go_wp2_with fail
            go_roundg (has.length - (i + 1))
            case measure => have := HIQ.out; have := HLT.out; omega
            case rel => exact ⟨i + 1, A2, c2, by first | rfl | rw [HIW.out], by rw [HYE.out], ⟨by have := HLT.out; omega, rfl⟩, ⟨by rw [HYE.out]; exact HOy.out⟩, HBu⟩
      · have HKR : Aside0 (fnD D (i : Int) = -2) := ⟨HD.out.out _ hk⟩
        have HYE : Aside0 (keepTo (rpoL has roots) (fnD D) n (i + 1) = xs) := ⟨by rw [HKS.out, if_neg (fun q => hk q.1), List.append_nil]⟩
        clear hk hlt
        go_loopg [8, 10] 0 (fun kq v8 v10 w' => v10 = .int .i64 (i : Int) ∧ v8 = .slice A xs.length c ∧ Aside0 (w'.ownsRow w3.heap.size 3 1 (.slice A xs.length c) xs.length (nums .i64 xs)) ∧ Aside0 (Below w3.heap.size w3 w'))
        case atStart => exact ⟨rfl, rfl, by rw [← hwo]; exact HO, by rw [← hwo]; exact HBi⟩
        case round =>
          clear hwo
          obtain ⟨rfl, rfl, HOy, HBu⟩ := hrel
          have c5 := (blk_cell (blk_deeper HOB.out HBu.out (blk_lt HOB.out)) 5).trans rfl
          obtain ⟨adD, eD, hxu⟩ := at_doms (Kd.C_below HCD.out HBu.out) (x := (i : Int)) (by omega) (by rw [HL.out]; have := HLT.out; omega)
          rw [HKR.out] at hxu
          rw [eD] at c5
          have u0 : (0 : Int) ≤ (i : Int) := by omega
          have u1 : (i : Int) < (has.length : Int) := by have := HLT.out; omega
          have d3 : decide ((i : Int) ≥ 0) = true := decide_eq_true u0
          have d4 : ((-2 : Int) != -2) = false := by decide
          rw [Int.toNat_natCast] at hxu
          clear eD
          go_wp2_with fail
          go_roundg (has.length - (i + 1))
          case measure => have := HIQ.out; have := HLT.out; omega
          case rel => exact ⟨i + 1, A, c, by first | rfl | rw [HIW.out], by rw [HYE.out], ⟨by have := HLT.out; omega, rfl⟩, ⟨by rw [HYE.out]; exact HOy.out⟩, HBu⟩
    · have e_ : i = has.length := by have := HIQ.out; omega
      subst e_
      have hdec : decide ((has.length : Int) < (has.length : Int)) = false := decide_eq_false (by omega)
      have hdec2 : decide (has.length < has.length) = false := decide_eq_false hlt
      clear hlt
      go_wp2_with fail
      go_ret2
      rw [HV.out]
      refine ⟨_, rfl, fun h => absurd rfl h, fun _ => ⟨H0.out, HNR.out, D, A, c, HD.out, rfl, ?_⟩, below_step HB3.out HBi.out⟩
      exact Kd.R_lower (Kd.R_of_own (enc := Value.int .i64) (h1 := fun _ => rfl) HO.out (fun _ _ => trivial)) HB3.out.size
end Go.Proofs.Ytoleplbmkdhgeaa.Own
