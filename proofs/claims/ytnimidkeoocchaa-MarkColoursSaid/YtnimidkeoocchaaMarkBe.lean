/- Package mark: begin and steps walked. -/
import Derived.Test.YtnimidkeoocchaaMarkGo
set_option linter.unusedVariables false
set_option linter.unusedSimpArgs false
namespace Go.Proofs.Ytnimidkeoocchaa.Mrk
open Go.RowKit Go.Proofs.YtnimidkeoocchaaW.PrintWords Go.Proofs.YtnimidkeoocchaaW.PrintLast Go.Proofs.YtnimidkeoocchaaW.PrintMore Go.Proofs.Ytnimidkeoocchaa.PK Go.Proofs.Ytnimidkeoocchaa.Hnd

set_option maxHeartbeats 8000000 in
set_option maxRecDepth 100000 in
theorem begin_not (w : World) {ok : Nat → Prop} {g : Nat} {kind : Int} {v : Value} {ps : List Value} {l : List Th} (h : MS w ok g kind true v ps l) :
    Calls Try.prog 50 #[.pointer (some ⟨g, 0, none⟩)] w fun e w' => e = .returned (.tuple #[.int .i64 0, .int .i64 8]) ∧ Below w.heap.size w w' := by
  have c1 := h.c1
  clear h
  go_enter Try.func50, Try.ntmps50
  go_wp2
  go_ret2
  exact ⟨rfl, by repeat (first | exact Below.refl _ _ | apply below_alloc | apply pw_below_drewN | apply below_drew1)⟩
set_option maxHeartbeats 8000000 in
set_option maxRecDepth 100000 in
theorem begin_calls (w : World) {ok : Nat → Prop} {g : Nat} {kind : Int} {v : Value} {ps : List Value} {l : List Th} (h : MS w ok g kind false v ps l) (hz : l.length ≤ 1000) :
    Calls Try.prog 50 #[.pointer (some ⟨g, 0, none⟩)] w fun e w' => e = .returned (.tuple #[.int .i64 ((beginL l).2 : Int), .int .i64 0]) ∧ MS w' ok g kind true v ps (beginL l).1 ∧ Fr ok w w' := by
  have c1 := h.c1
  have z1 := h.z 1
  have HM := Aside0.mk h
  have HM1 := Aside0.mk (h.marks true)
  have HZ := Aside0.mk hz
  have c2 := HM1.out.c2
  have HF1 : Aside0 (Fr ok w (w.setCell ⟨g, 1, none⟩ (.bool true))) := ⟨(Fr.refl ok w).set (.inl h.gok) _⟩
  obtain ⟨AV, cV, ev, hcv⟩ := own_shape h.row
  subst ev
  clear h hz
  go_enter Try.func50, Try.ntmps50
  go_wp2
  go_loopg [4, 19] l.length (fun kq v4 v19 W => ∃ i : Nat, v19 = .int .i64 (i : Int) ∧ v4 = .int .i64 (((List.range i).foldl begin1 (l, 0)).2 : Int) ∧ Aside0 (i ≤ l.length ∧ kq = l.length - i) ∧ Aside0 (MS W ok g kind true (.slice AV l.length cV) ps ((List.range i).foldl begin1 (l, 0)).1) ∧ Aside0 (Fr ok w W))
  case atStart => exact ⟨0, rfl, rfl, ⟨Nat.zero_le _, by omega⟩, HM1, HF1⟩
  case round =>
    clear c1 z1 c2
    obtain ⟨i, rfl, rfl, HIQ, HW, HF⟩ := hrel
    have hsn := beginF_snoc l i
    have hle := beginF_le (List.range i) (l, 0)
    have hhs := beginF_has (List.range i) (l, 0)
    obtain ⟨s, hs⟩ : ∃ s, s = (List.range i).foldl begin1 (l, 0) := ⟨_, rfl⟩
    rw [← hs] at hsn hle hhs HW ⊢
    have HS := Aside0.mk hs
    clear hs
    have hl3 : s.1.length = l.length := hasL_len hhs
    have HSN := Aside0.mk hsn
    have HLE : Aside0 (s.2 ≤ i) := ⟨by simpa using hle⟩
    have HL3 := Aside0.mk hl3
    clear hsn hle hhs
    by_cases hlt : i < l.length
    · obtain ⟨q, cap, e1⟩ := HW.out.vform (by omega)
      injection e1 with e1 e2 e3
      subst e1
      clear e2 e3
      obtain ⟨A, c, y0, y1, y2, hpe⟩ := HW.out.at' i (by omega)
      have hi0 : (0 : Int) ≤ (i : Int) := by omega
      have hi1 : (i : Int) < (l.length : Int) := by omega
      have hdec : decide ((i : Int) < (l.length : Int)) = true := decide_eq_true hi1
      have hdec2 : decide (i < l.length) = true := decide_eq_true hlt
      have HLT := Aside0.mk hlt
      have hbx := below_alloc (Below.refl wr.heap.size wr) (Obj.cells #[.slice A (thAt s.1 i).f0.length c, .int .i64 (thAt s.1 i).f1, .bool (thAt s.1 i).f2] 78)
      have HWX := Aside0.mk (HW.out.below hbx)
      have HFX := Aside0.mk (HF.out.below hbx)
      have HCALL := Aside0.mk (shade_calls _ (i : Int) HWX.out (by omega))
      have hw64 : wrap64 ((i : Int) + 1) = ((i + 1 : Nat) : Int) := by have := HZ.out; unfold wrap64; omega
      have hw65 : wrap64 ((s.2 : Int) + 1) = ((s.2 + 1 : Nat) : Int) := by have := HZ.out; have := HLE.out; unfold wrap64; omega
      have HW64 := Aside0.mk hw64
      have HW65 := Aside0.mk hw65
      cases hq : (thAt s.1 i).f2 with
      | true =>
        have HE : Aside0 (begin1 s i = (shadeL true i s.1, s.2 + 1)) := ⟨by unfold begin1; rw [if_pos hq]⟩
        rw [hq] at y2 HCALL HWX HFX hbx
        generalize (thAt s.1 i).f1 = x1 at y1 HCALL HWX HFX hbx
        generalize (thAt s.1 i).f0 = x0 at y0 HCALL HWX HFX hbx
        clear hq hbx hpe hlt hl3 hw64 hw65
        go_wp2_with fail
        refine HCALL.out.mono ?_
        rintro e w2 ⟨rfl, hm, hf⟩
        go_wp2_with fail
        go_roundg (l.length - (i + 1))
        case measure => have := HIQ.out; have := HLT.out; omega
        case rel =>
          refine ⟨i + 1, ?_, ?_, ⟨by have := HLT.out; omega, rfl⟩, ⟨?_⟩, ⟨HFX.out.trans hf⟩⟩
          · first | rfl | rw [HW64.out]
          · rw [HSN.out, HE.out]; first | rfl | rw [HW65.out]
          · rw [HSN.out, HE.out]; exact hm
      | false =>
        have HE : Aside0 (begin1 s i = s) := ⟨by unfold begin1; rw [if_neg (by rw [hq]; decide)]⟩
        rw [hq] at y2 HCALL HWX HFX hbx
        generalize (thAt s.1 i).f1 = x1 at y1 HCALL HWX HFX hbx
        generalize (thAt s.1 i).f0 = x0 at y0 HCALL HWX HFX hbx
        clear hq hbx hpe hlt hl3 hw64 hw65
        go_wp2_with fail
        go_roundg (l.length - (i + 1))
        case measure => have := HIQ.out; have := HLT.out; omega
        case rel =>
          refine ⟨i + 1, ?_, ?_, ⟨by have := HLT.out; omega, rfl⟩, ⟨?_⟩, HFX⟩
          · first | rfl | rw [HW64.out]
          · rw [HSN.out, HE.out]
          · rw [HSN.out, HE.out]; exact HWX.out
    · have e_ : i = l.length := by have := HIQ.out; omega
      subst e_
      have hdec : decide ((l.length : Int) < (l.length : Int)) = false := decide_eq_false (by omega)
      have hdec2 : decide (l.length < l.length) = false := decide_eq_false hlt
      have HE : Aside0 (beginL l = s) := ⟨HS.out.symm⟩
      clear hlt HIQ hl3
      go_wp2_with fail
      go_ret2
      rw [HE.out]
      exact ⟨rfl, HW.out, HF.out⟩
set_option maxHeartbeats 8000000 in
set_option maxRecDepth 100000 in
theorem steps_not (w : World) {ok : Nat → Prop} {g : Nat} {kind : Int} {v : Value} {ps : List Value} {l : List Th} (n : Int) (h : MS w ok g kind false v ps l) :
    Calls Try.prog 51 #[.pointer (some ⟨g, 0, none⟩), .int .i64 n] w fun e w' => e = .returned (.tuple #[.int .i64 0, .int .i64 8]) ∧ Below w.heap.size w w' := by
  have c1 := h.c1
  clear h
  go_enter Try.func51, Try.ntmps51
  go_wp2
  go_ret2
  exact ⟨rfl, by repeat (first | exact Below.refl _ _ | apply below_alloc | apply pw_below_drewN | apply below_drew1)⟩
set_option maxHeartbeats 8000000 in
set_option maxRecDepth 100000 in
theorem steps_neg (w : World) {ok : Nat → Prop} {g : Nat} {kind : Int} {v : Value} {ps : List Value} {l : List Th} (n : Int) (hn : n < 0) (h : MS w ok g kind true v ps l) :
    Calls Try.prog 51 #[.pointer (some ⟨g, 0, none⟩), .int .i64 n] w fun e w' => e = .returned (.tuple #[.int .i64 0, .int .i64 1]) ∧ Below w.heap.size w w' := by
  have c1 := h.c1
  have hd : decide (n < 0) = true := decide_eq_true hn
  clear h
  go_enter Try.func51, Try.ntmps51
  go_wp2
  go_ret2
  exact ⟨rfl, by repeat (first | exact Below.refl _ _ | apply below_alloc | apply pw_below_drewN | apply below_drew1)⟩
set_option maxHeartbeats 8000000 in
set_option maxRecDepth 100000 in
theorem steps_calls (w : World) {ok : Nat → Prop} {g : Nat} {kind : Int} {v : Value} {ps : List Value} {l : List Th} (n : Int) (hn : 0 ≤ n) (hnz : n ≤ 9223372036854775807) (h : MS w ok g kind true v ps l) (ho : OkL l) :
    Calls Try.prog 51 #[.pointer (some ⟨g, 0, none⟩), .int .i64 n] w fun e w' => e = .returned (.tuple #[.int .i64 (runL true n (meas l + 1) 0 l).2, .int .i64 0]) ∧ MS w' ok g kind true v ps (runL true n (meas l + 1) 0 l).1 ∧ Fr ok w w' := by
  have c1 := h.c1
  have hd : decide (n < 0) = false := decide_eq_false (by omega)
  have HM := Aside0.mk h
  have HO := Aside0.mk ho
  have HN := Aside0.mk hnz
  obtain ⟨r, hr⟩ : ∃ r, r = runL true n (meas l + 1) 0 l := ⟨_, rfl⟩
  rw [← hr]
  have HR := Aside0.mk hr
  clear h ho hr
  go_enter Try.func51, Try.ntmps51
  go_wp2
  go_loopg [6] (meas l + 1) (fun kq v6 W => ∃ (many : Int) (l' : List Th), v6 = .int .i64 many ∧ Aside0 (0 ≤ many ∧ meas l' < kq ∧ runL true n kq many l' = r) ∧ Aside0 (hasL l' = hasL l) ∧ Aside0 (MS W ok g kind true v ps l') ∧ Aside0 (Fr ok w W))
  case atStart => exact ⟨0, l, rfl, ⟨Int.le_refl _, by omega, HR.out.symm⟩, ⟨rfl⟩, HM, ⟨Fr.refl _ _⟩⟩
  case round =>
    obtain ⟨many, l', rfl, HQ, HH, HW, HF⟩ := hrel
    cases gk with
    | zero => exact absurd HQ.out.2.1 (by omega)
    | succ k1 =>
      have hrr := HQ.out.2.2
      rw [runL] at hrr
      have HCALL := Aside0.mk (step_calls wr HW.out (HO.out.of_has HH.out))
      by_cases hmn : many < n
      · have hd2 : decide (many < n) = true := decide_eq_true hmn
        rw [if_pos hmn] at hrr
        have HMN := Aside0.mk hmn
        cases hq : (stepL true l').2 with
        | true =>
          rw [hq, if_pos rfl] at hrr
          have HRR := Aside0.mk hrr
          have HME := Aside0.mk (stepL_meas true l' hq)
          have HHE := Aside0.mk ((stepL_has true l').trans HH.out)
          rw [hq] at HCALL
          generalize (stepL true l').1 = l2 at HRR HME HHE HCALL
          clear hrr hq hmn
          go_wp2_with fail
          refine HCALL.out.mono ?_
          rintro e w2 ⟨rfl, hm, hf⟩
          go_wp2_with fail
          go_roundg k1
          case measure => omega
          case rel =>
            refine ⟨many + 1, l2, ?_, ⟨?_⟩, HHE, ⟨hm⟩, ⟨HF.out.trans hf⟩⟩
            · first | rfl | (have := HMN.out; have := HN.out; have := HQ.out.1; rw [show wrap64 (many + 1) = many + 1 from by unfold wrap64; omega])
            · have := HQ.out; have := HME.out; exact ⟨by omega, by omega, HRR.out⟩
        | false =>
          rw [hq, if_neg (by decide)] at hrr
          rw [stepL_no true l' hq, hq] at HCALL
          subst hrr
          clear hq hmn
          go_wp2_with fail
          refine HCALL.out.mono ?_
          rintro e w2 ⟨rfl, hm, hf⟩
          go_wp2_with fail
          go_ret2
          exact ⟨rfl, hm, HF.out.trans hf⟩
      · have hd2 : decide (many < n) = false := decide_eq_false hmn
        rw [if_neg hmn] at hrr
        subst hrr
        clear hmn HCALL
        go_wp2_with fail
        go_ret2
        exact ⟨rfl, HW.out, HF.out⟩
end Go.Proofs.Ytnimidkeoocchaa.Mrk
