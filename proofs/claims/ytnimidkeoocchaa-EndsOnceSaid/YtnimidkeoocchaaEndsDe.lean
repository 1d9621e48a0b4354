/- Package ends: due that fails, and Due. -/
import Derived.Test.YtnimidkeoocchaaEndsDu
set_option linter.unusedVariables false
set_option linter.unusedSimpArgs false
namespace Go.Proofs.Ytnimidkeoocchaa.End
open Go.RowKit Go.Proofs.YtnimidkeoocchaaW.PrintWords Go.Proofs.YtnimidkeoocchaaW.PrintLast Go.Proofs.YtnimidkeoocchaaW.PrintMore Go.Proofs.Ytnimidkeoocchaa.PE Go.Proofs.Ytnimidkeoocchaa.Rch Go.Proofs.Ytnimidkeoocchaa.Chk Go.Proofs.Ytnimidkeoocchaa.Fni Go.Proofs.Ytnimidkeoocchaa.Hnd

theorem dueE_err {has : List (List Int)} {roots l : List Int} (h : dueE has roots l ≠ 0) : checkE has roots ≠ 0 ∨ (checkE has roots = 0 ∧ (100 < l.length ∧ dueE has roots l = 2 ∨ l.length ≤ 100 ∧ dueE has roots l = 3 ∧ ∃ i, ∃ hi : i < l.length, ¬ (0 ≤ l[i] ∧ l[i] < (has.length : Int)) ∧ ∀ j (hj : j < l.length), j < i → (0 ≤ l[j] ∧ l[j] < (has.length : Int)))) := by
  by_cases hc : checkE has roots = 0
  · refine .inr ⟨hc, ?_⟩
    unfold dueE at h ⊢
    rw [if_pos hc] at h ⊢
    by_cases h1 : 100 < l.length
    · exact .inl ⟨h1, by rw [if_pos h1]⟩
    · rw [if_neg h1] at h ⊢
      by_cases h2 : l.all (inr has.length) = true
      · rw [if_pos h2] at h; exact absurd rfl h
      · rw [if_neg h2]
        refine .inr ⟨by omega, rfl, ?_⟩
        cases hf : l.findIdx? (fun x => !inr has.length x) with
        | none =>
          rw [List.findIdx?_eq_none_iff] at hf
          exact absurd (List.all_eq_true.2 (fun x hx => by simpa using hf x hx)) h2
        | some i =>
          obtain ⟨hi, g1, g2⟩ := List.findIdx?_eq_some_iff_getElem.1 hf
          refine ⟨i, hi, fun hb => ?_, fun j hj hlt => ?_⟩
          · unfold inr at g1; simp at g1; omega
          · have := g2 j hlt
            unfold inr at this; simpa using this
  · exact .inl hc
set_option maxHeartbeats 16000000 in
set_option maxRecDepth 100000 in
theorem due_err (w : World) (AH : Option Addr) (cH : Nat) (has : List (List Int)) (AR : Option Addr) (cR : Nat) (roots : List Int) (A : Option Addr) (c : Nat) (l : List Int)
    (hH : KH.C w AH has.length has) (hcH : has.length ≤ cH) (hR : (Kd.int .i64).C w AR roots.length roots) (hcR : roots.length ≤ cR) (hl : (Kd.int .i64).C w A l.length l) (hlc : l.length ≤ c) (hE : dueE has roots l ≠ 0) :
    Calls Try.prog 57 #[.agg #[.slice AH has.length cH, .slice AR roots.length cR], .slice A l.length c] w fun e w' => e = .returned (.tuple #[.slice none 0 0, .slice none 0 0, .int .i64 (dueE has roots l)]) ∧ Below w.heap.size w w' := by
  have hbx := below_alloc (Below.refl w.heap.size w) (Obj.cells #[.slice AH has.length cH, .slice AR roots.length cR] 38)
  have HBX := Aside0.mk hbx
  have HG := Aside0.mk (blk_new w (Obj.cells #[.slice AH has.length cH, .slice AR roots.length cR] 38))
  have HCK := Aside0.mk (weak_Check.calls (checkK has roots) (fun _ => True) AH cH has (fun _ => True) AR cR roots _ _ (V_of_C (Kd.heap_slice _ (Kd.heap_int _)) (Kd.C_below hH hbx) hcH) (V_of_C (Kd.heap_int _) (Kd.C_below hR hbx) hcR) (check_f has roots _ (Nat.le_refl _)))
  have HL := Aside0.mk hl
  have HLZ : Aside0 (l.length ≤ 9223372036854775807) := ⟨hl.2.1⟩
  clear hH hcH hR hcR hl hlc hbx
  rcases dueE_err hE with hc | ⟨hc, hcase⟩
  · have HE : Aside0 (dueE has roots l = checkE has roots) := ⟨by unfold dueE; rw [if_neg hc]⟩
    clear hE
    generalize checkE has roots = E at HCK HE hc
    have hb : (E == 0) = false := by simpa using hc
    clear hc
    go_enter Try.func57, Try.ntmps57
    go_wp2_with fail
    refine HCK.out.mono ?_
    rintro e w2 ⟨rfl, hd2⟩
    have HB2 := Aside0.mk (below_step HBX.out hd2)
    clear hd2 HCK
    go_wp2_with fail
    go_ret3
    rw [HE.out]
    exact ⟨rfl, HB2.out⟩
  · rw [hc] at HCK
    clear hE hc
    rcases hcase with ⟨h1, h2⟩ | ⟨h1, h2, i0, hi0, hno, hyes⟩
    · have HE := Aside0.mk h2
      have hgt : decide ((100 : Int) < (l.length : Int)) = true := decide_eq_true (by omega)
      clear h1 h2
      go_enter Try.func57, Try.ntmps57
      go_wp2_with fail
      refine HCK.out.mono ?_
      rintro e w2 ⟨rfl, hd2⟩
      have HB2 := Aside0.mk (below_step HBX.out hd2)
      clear hd2 HCK
      go_wp2_with fail
      go_ret3
      rw [HE.out]
      exact ⟨rfl, HB2.out⟩
    · have HE := Aside0.mk h2
      have HYES := Aside0.mk hyes
      have HNO := Aside0.mk hno
      have HI0 := Aside0.mk hi0
      have HL100 := Aside0.mk h1
      have hgt : decide ((100 : Int) < (l.length : Int)) = false := decide_eq_false (by omega)
      clear h1 h2 hyes hno
      go_enter Try.func57, Try.ntmps57
      go_wp2_with fail
      refine HCK.out.mono ?_
      rintro e w2 ⟨rfl, hd2⟩
      have HB2 := Aside0.mk (below_step HBX.out hd2)
      have HG2 := Aside0.mk (blk_below HG.out hd2)
      have g0 := (blk_cell HG2.out 0).trans rfl
      clear hd2 HCK
      go_wp2_with fail
      go_loopg [22] l.length (fun kq v22 W => ∃ i : Nat, v22 = .int .i64 (i : Int) ∧ Aside0 (i ≤ i0 ∧ kq = l.length - i) ∧ W = w2)
      case atStart => exact ⟨0, rfl, ⟨Nat.zero_le _, by omega⟩, rfl⟩
      case round =>
        obtain ⟨i, rfl, HIQ, rfl⟩ := hrel
        have hlt : i < l.length := by have := HIQ.out; omega
        have hi0' : (0 : Int) ≤ (i : Int) := by omega
        have hi1 : (i : Int) < (l.length : Int) := by omega
        obtain ⟨ad, e, hx⟩ := Kd.at_int (Kd.C_below HL.out HB2.out) (i : Int) (by omega) (by omega)
        rw [Int.toNat_natCast, Fni.rdI hlt] at hx
        subst e
        have hdec : decide ((i : Int) < (l.length : Int)) = true := decide_eq_true hi1
        have hdec2 : decide (i < l.length) = true := decide_eq_true hlt
        have HLT := Aside0.mk hlt
        by_cases e0 : i = i0
        · subst e0
          have hy := HNO.out
          generalize l[i] = y at hx hy
          clear hlt
          by_cases hneg : y < 0
          · have hd0 : decide (y < 0) = true := decide_eq_true hneg
            clear hy hneg
            go_wp2_with fail
            go_ret3
            rw [HE.out]
            exact ⟨rfl, HB2.out⟩
          · have hd0 : decide (y < 0) = false := decide_eq_false hneg
            have hd1 : decide ((has.length : Int) ≤ y) = true := decide_eq_true (by omega)
            clear hy hneg
            go_wp2_with fail
            go_ret3
            rw [HE.out]
            exact ⟨rfl, HB2.out⟩
        · have hy := HYES.out i hlt (by have := HIQ.out; omega)
          generalize l[i] = y at hx hy
          have hd0 : decide (y < 0) = false := decide_eq_false (by omega)
          have hd1 : decide ((has.length : Int) ≤ y) = false := decide_eq_false (by omega)
          have HW64 : Aside0 (wrap64 ((i : Int) + 1) = ((i + 1 : Nat) : Int)) := ⟨by have := HLZ.out; have := HLT.out; unfold wrap64; omega⟩
          have HE0 := Aside0.mk e0
          clear hy hlt e0
          go_wp2_with fail
          go_roundg (l.length - (i + 1))
          case measure => have := HIQ.out; have := HLT.out; omega
          case rel => exact ⟨i + 1, by first | rfl | rw [HW64.out], ⟨by have := HIQ.out; have := HE0.out; omega, rfl⟩, rfl⟩
set_option maxHeartbeats 16000000 in
set_option maxRecDepth 100000 in
theorem Due_err (w : World) (AH : Option Addr) (cH : Nat) (has : List (List Int)) (AR : Option Addr) (cR : Nat) (roots : List Int) (A : Option Addr) (c : Nat) (l : List Int)
    (hH : KH.C w AH has.length has) (hcH : has.length ≤ cH) (hR : (Kd.int .i64).C w AR roots.length roots) (hcR : roots.length ≤ cR) (hl : (Kd.int .i64).C w A l.length l) (hlc : l.length ≤ c) (hE : dueE has roots l ≠ 0) :
    Calls Try.prog 33 #[.agg #[.slice AH has.length cH, .slice AR roots.length cR], .slice A l.length c] w fun e w' => e = .returned (.tuple #[.slice none 0 0, .slice none 0 0, .int .i64 (dueE has roots l)]) ∧ Below w.heap.size w w' := by
  have hbx := below_alloc (Below.refl w.heap.size w) (Obj.cells #[.slice AH has.length cH, .slice AR roots.length cR] 38)
  have HBX := Aside0.mk hbx
  have HCALL := Aside0.mk (due_err _ AH cH has AR cR roots A c l (Kd.C_below hH hbx) hcH (Kd.C_below hR hbx) hcR (Kd.C_below hl hbx) hlc hE)
  have hb : (dueE has roots l == 0) = false := by simpa using hE
  generalize dueE has roots l = E at HCALL hb
  clear hH hcH hR hcR hl hlc hbx hE
  go_enter Try.func33, Try.ntmps33
  go_wp2_with fail
  refine HCALL.out.mono ?_
  rintro e w2 ⟨rfl, hd2⟩
  have HB2 := Aside0.mk (below_step HBX.out hd2)
  clear hd2 HCALL
  go_wp2_with fail
  go_ret3
  exact ⟨rfl, HB2.out⟩
set_option maxHeartbeats 16000000 in
set_option maxRecDepth 100000 in
theorem Due_ok (w : World) (AH : Option Addr) (cH : Nat) (has : List (List Int)) (AR : Option Addr) (cR : Nat) (roots : List Int) (A : Option Addr) (c : Nat) (l : List Int)
    (hH : KH.C w AH has.length has) (hcH : has.length ≤ cH) (hR : (Kd.int .i64).C w AR roots.length roots) (hcR : roots.length ≤ cR) (hl : (Kd.int .i64).C w A l.length l) (hlc : l.length ≤ c) (hE : dueE has roots l = 0) :
    Calls Try.prog 33 #[.agg #[.slice AH has.length cH, .slice AR roots.length cR], .slice A l.length c] w fun e w' => ∃ A1 c1 A2 c2, e = .returned (.tuple #[.slice A1 (dueL has roots l).length c1, .slice A2 (rise (stayB has roots l)).length c2, .int .i64 0]) ∧
      (Kd.int .i64).R 3 w' w.heap.size (fun _ => True) (.slice A1 (dueL has roots l).length c1) (dueL has roots l) ∧ (Kd.int .i64).R 3 w' w.heap.size (fun _ => True) (.slice A2 (rise (stayB has roots l)).length c2) (rise (stayB has roots l)) ∧ (∀ k, (Value.slice A1 (dueL has roots l).length c1).ownBlock = some k → (Value.slice A2 (rise (stayB has roots l)).length c2).ownBlock ≠ some k) ∧ Below w.heap.size w w' := by
  obtain ⟨hck, hl100, hin⟩ := dueE_ok hE
  obtain ⟨hz1, hz2, hz3, hri, hhi⟩ := check_ok hck
  have hbx := below_alloc (Below.refl w.heap.size w) (Obj.cells #[.slice AH has.length cH, .slice AR roots.length cR] 38)
  have HBX := Aside0.mk hbx
  have HG := Aside0.mk (blk_new w (Obj.cells #[.slice AH has.length cH, .slice AR roots.length cR] 38))
  have HCALL := Aside0.mk (due_ok _ AH cH has AR cR roots A c l (Kd.C_below hH hbx) hcH (Kd.C_below hR hbx) hcR (Kd.C_below hl hbx) hlc hE)
  have HH := Aside0.mk hH
  have HHI : Aside0 (∀ r ∈ has, InR has.length r) := ⟨fun r hr x hx => hhi r hr x hx⟩
  have HZ := Aside0.mk hz1
  have HDI : Aside0 (InR has.length (dueL has roots l)) := ⟨fun x hx => hin x (due_mem.1 hx).1⟩
  have HSB := Aside0.mk (halfS_all has roots l)
  have HSL := Aside0.mk (fromL_length has roots)
  have HAL := Aside0.mk (fromL_length has (dueL has roots l))
  obtain ⟨D, hD⟩ : ∃ D, D = dueL has roots l := ⟨_, rfl⟩
  have HDD := Aside0.mk hD
  rw [← hD] at HCALL HDI HSB HAL
  obtain ⟨b, hb⟩ : ∃ b, b = fromL has roots := ⟨_, rfl⟩
  have HBB := Aside0.mk hb
  rw [← hb] at HCALL HSB HSL
  clear hH hcH hR hcR hl hlc hbx hE hck hl100 hin hz1 hz2 hz3 hri hhi hD hb
  go_enter Try.func33, Try.ntmps33
  go_wp2_with fail
  refine HCALL.out.mono ?_
  rintro e w2 ⟨A1, c1, A2, c2, rfl, hR1, hR2, hb2⟩
  have HB2 := Aside0.mk (below_step HBX.out hb2)
  have HG2 := Aside0.mk (blk_below HG.out hb2)
  have HR1 := Aside0.mk hR1
  have HR2 := Aside0.mk hR2
  have HHC := Aside0.mk (Kd.C_below HH.out HB2.out)
  have HFR := Aside0.mk (from_calls w2 AH cH has AR roots.length cR A1 c1 D HHC.out (Kd.R_reads' hR1).2.2 (Kd.R_reads' hR1).2.1 HHI.out HDI.out (by have := HZ.out; omega))
  obtain ⟨a, ha⟩ : ∃ a, a = fromL has D := ⟨_, rfl⟩
  rw [← ha] at HFR HSB HAL
  have g0 := (blk_cell HG2.out 0).trans rfl
  have g1 := (blk_cell HG2.out 1).trans rfl
  have HSZ : Aside0 (w.heap.size ≤ w2.heap.size) := ⟨HB2.out.size⟩
  clear hR1 hR2 hb2 HCALL ha
  go_wp2_with fail
  refine HFR.out.mono ?_
  rintro e w3 ⟨v3, rfl, hR3, hb3⟩
  obtain ⟨A3, c3, e3⟩ := Kd.R_slice hR3
  subst e3
  have HB3 := Aside0.mk (below_step HB2.out hb3)
  have HR1' := Aside0.mk (Kd.R_below HR1.out hb3)
  have HR2' := Aside0.mk (Kd.R_below HR2.out hb3)
  have HO3 := Aside0.mk (Kd.own_of_R hR3)
  have HSZ3 := Aside0.mk hb3.size
  have HBF := Aside0.mk hb3
  have HLT2 := Aside0.mk (Kd.R_lt HR2.out)
  have HH0 : Aside0 (a = halfS has.length a b 0) := ⟨by have h_ := halfS_zero a b; rw [HAL.out] at h_; exact h_.symm⟩
  clear hR3 hb3 g0 g1 HFR
  go_wp2_with fail
  go_loopg [27] a.length (fun kq v27 W => ∃ i : Nat, v27 = .int .i64 (i : Int) ∧ Aside0 (i ≤ has.length ∧ kq = a.length - i) ∧ Aside0 (W.ownsRow w2.heap.size 4 1 (.slice A3 a.length c3) a.length ((halfS has.length a b i).map Value.bool)) ∧ Aside0 (Below w2.heap.size w2 W))
  case atStart => exact ⟨0, rfl, ⟨Nat.zero_le _, by omega⟩, ⟨by rw [← HH0.out]; exact HO3.out⟩, HBF⟩
  case round =>
    clear HO3 HBF
    obtain ⟨i, rfl, HIQ, HO, HB⟩ := hrel
    by_cases hlt : i < a.length
    · have hi0 : (0 : Int) ≤ (i : Int) := by omega
      have hi1 : (i : Int) < (a.length : Int) := by omega
      have hia : i < has.length := by rw [← HAL.out]; exact hlt
      obtain ⟨g, cap, ev⟩ := own_nthH HO.out (by omega)
      injection ev with ev1 ev2 ev3
      subst ev1
      subst ev3
      have x0 := own_getB HO.out i hlt
      rw [halfS_get hia] at x0
      have z0 := own_free HO.out i
      have hib : (i : Int) < (b.length : Int) := by rw [HSL.out]; omega
      obtain ⟨ad2, e2, y0⟩ := Kd.at_bool (Kd.R_reads' (R_flat rfl HR2.out (fun k hk => HB.out.block k (HLT2.out k hk)))).2.2 (i : Int) hi0 hib
      subst e2
      have hrd2 : rdOf false b (i : Int) = b.getD i false := by unfold rdOf; simp
      rw [hrd2, Int.toNat_natCast] at y0
      have hdec : decide ((i : Int) < (a.length : Int)) = true := decide_eq_true hi1
      have hdec2 : decide (i < a.length) = true := decide_eq_true hlt
      have HLT := Aside0.mk hlt
      have HPUT := Aside0.mk (own_setB HO.out i (a.getD i false && !b.getD i false))
      rw [← halfS_next hia] at HPUT
      have HGB := Aside0.mk (own_base HO.out g rfl)
      have HW64 : Aside0 (wrap64 ((i : Int) + 1) = ((i + 1 : Nat) : Int)) := ⟨by have := HZ.out; have := HAL.out; have := HLT.out; unfold wrap64; omega⟩
      generalize a.getD i false = ai at x0 HPUT
      generalize b.getD i false = bi at y0 HPUT
      clear hlt hia hrd2
      cases ai with
      | true =>
        go_wp2_with fail
        go_roundg (a.length - (i + 1))
        case measure => have := HIQ.out; have := HLT.out; omega
        case rel => exact ⟨i + 1, by first | rfl | rw [HW64.out], ⟨by have := HLT.out; have := HAL.out; omega, rfl⟩, HPUT, ⟨HB.out.setCell (p := ⟨g, i, none⟩) HGB.out _⟩⟩
      | false =>
        go_wp2_with fail
        go_roundg (a.length - (i + 1))
        case measure => have := HIQ.out; have := HLT.out; omega
        case rel => exact ⟨i + 1, by first | rfl | rw [HW64.out], ⟨by have := HLT.out; have := HAL.out; omega, rfl⟩, HPUT, ⟨HB.out.setCell (p := ⟨g, i, none⟩) HGB.out _⟩⟩
    · have e_ : i = a.length := by have := HIQ.out; have := HAL.out; omega
      subst e_
      have hdec : decide ((a.length : Int) < (a.length : Int)) = false := decide_eq_false (by omega)
      have hdec2 : decide (a.length < a.length) = false := decide_eq_false hlt
      have HOS : Aside0 (wr.ownsRow w2.heap.size 4 1 (.slice A3 a.length c3) a.length ((stayB has roots l).map Value.bool)) := ⟨by have h_ := HO.out; rw [HAL.out] at h_ ⊢; rw [← HSB.out]; exact h_⟩
      have HSBL := Aside0.mk (stayB_len has roots l)
      obtain ⟨S, hS⟩ : ∃ S, S = stayB has roots l := ⟨_, rfl⟩
      rw [← hS] at HOS HSBL
      have HSQ := Aside0.mk hS
      clear hS
      have hSa : S.length = a.length := by rw [HSBL.out, HAL.out]
      have hcS : Kd.bool.C wr A3 S.length S := by
        have h_ := (Kd.R_reads' (Kd.R_of_own (enc := Value.bool) (h1 := fun _ => rfl) (ok := fun _ => True) (xs := S) (v := .slice A3 S.length c3) (by rw [hSa]; exact HOS.out) (fun _ _ => trivial))).2.2
        exact h_
      have hcc : S.length ≤ c3 := by
        obtain ⟨A', c', e', h'⟩ := own_shapeH HOS.out
        injection e' with _ _ e3
        rw [hSa, e3]; exact h'
      have HRI := Aside0.mk (weak_Rising.calls (S.length + 1) A3 c3 S (rise S) wr hcS hcc (rising_f S (by rw [HSBL.out]; have := HZ.out; omega) _ (by omega)))
      rw [hSa] at HRI
      clear hlt HIQ hcS hcc hSa
      go_wp2_with fail
      refine HRI.out.mono ?_
      rintro e w4 ⟨v4, rfl, hR4, hb4⟩
      obtain ⟨A4, c4, e4⟩ := Kd.R_slice hR4
      subst e4
      have HR4 := Aside0.mk hR4
      have hbz : Below w2.heap.size w2 w4 := HB.out.trans (below_cut hb4 HB.out.size)
      have HBZ := Aside0.mk hbz
      have HWR : Aside0 (w2.heap.size ≤ wr.heap.size) := ⟨HB.out.size⟩
      have HBW : Aside0 (w.heap.size ≤ wr.heap.size) := ⟨Nat.le_trans HSZ.out HB.out.size⟩
      clear hR4 hb4 hbz
      go_wp2_with fail
      go_ret3
      rw [← HDD.out, ← HSQ.out]
      exact ⟨_, _, _, _, rfl, Kd.R_lower (Kd.R_below HR1.out HBZ.out) (by have := HBX.out.size; omega), Kd.R_lower HR4.out HBW.out, fun k h1 h2 => (by have g1 := Kd.R_lt HR1.out k h1; have g2 := Kd.R_base HR4.out k h2; have g3 := HWR.out; omega), HB2.out.trans (below_cut HBZ.out HSZ.out)⟩
/-! ### In the printer's words -/
def dueR (has : List (List Int)) (roots l : List Int) : List Int := if dueE has roots l = 0 then dueL has roots l else []
def stayR (has : List (List Int)) (roots l : List Int) : List Int := if dueE has roots l = 0 then rise (stayB has roots l) else []
theorem Due_calls (w : World) (AH : Option Addr) (cH : Nat) (has : List (List Int)) (AR : Option Addr) (cR : Nat) (roots : List Int) (A : Option Addr) (c : Nat) (l : List Int)
    (hH : KH.C w AH has.length has) (hcH : has.length ≤ cH) (hR : (Kd.int .i64).C w AR roots.length roots) (hcR : roots.length ≤ cR) (hl : (Kd.int .i64).C w A l.length l) (hlc : l.length ≤ c) :
    Calls Try.prog 33 #[.agg #[.slice AH has.length cH, .slice AR roots.length cR], .slice A l.length c] w fun e w' => ∃ v0_ v1_ : Value, e = .returned (.tuple #[v0_, v1_, .int .i64 (dueE has roots l)]) ∧ (Kd.int .i64).R 3 w' w.heap.size (fun k_ => some k_ ≠ v1_.ownBlock) v0_ (dueR has roots l) ∧ (Kd.int .i64).R 3 w' w.heap.size (fun k_ => some k_ ≠ v0_.ownBlock) v1_ (stayR has roots l) ∧ Below w.heap.size w w' := by
  by_cases hE : dueE has roots l = 0
  · refine (Due_ok w AH cH has AR cR roots A c l hH hcH hR hcR hl hlc hE).mono ?_
    rintro e w' ⟨A1, c1, A2, c2, he, h1, h2, h3, hb⟩
    unfold dueR stayR
    rw [if_pos hE, if_pos hE, hE]
    exact ⟨_, _, he, Kd.R_reok rfl h1 (fun k hk e => h3 k hk e.symm), Kd.R_reok rfl h2 (fun k hk e => h3 k e.symm hk), hb⟩
  · refine (Due_err w AH cH has AR cR roots A c l hH hcH hR hcR hl hlc hE).mono ?_
    rintro e w' ⟨he, hb⟩
    unfold dueR stayR
    rw [if_neg hE, if_neg hE]
    exact ⟨_, _, he, Kd.R_nil _ _ _ _ _, Kd.R_nil _ _ _ _ _, hb⟩
end Go.Proofs.Ytnimidkeoocchaa.End
