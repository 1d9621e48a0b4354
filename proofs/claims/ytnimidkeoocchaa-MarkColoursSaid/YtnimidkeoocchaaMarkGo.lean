/- Package mark: step, steps, begin, end walked. -/
import Derived.Test.YtnimidkeoocchaaMarkPl
set_option linter.unusedVariables false
set_option linter.unusedSimpArgs false
namespace Go.Proofs.Ytnimidkeoocchaa.Mrk
open Go.RowKit Go.Proofs.YtnimidkeoocchaaW.PrintWords Go.Proofs.YtnimidkeoocchaaW.PrintLast Go.Proofs.YtnimidkeoocchaaW.PrintMore Go.Proofs.Ytnimidkeoocchaa.PK Go.Proofs.Ytnimidkeoocchaa.Hnd

theorem MS.at' {W : World} {ok : Nat → Prop} {g : Nat} {kind : Int} {mk : Bool} {ps : List Value} {l : List Th} {q n cap : Nat} (h : MS W ok g kind mk (.slice (some ⟨q, 0, none⟩) n cap) ps l) (i : Nat) (hi : i < l.length) :
    ∃ A c, W.cell? ⟨q, i * 3, none⟩ = some (.slice A (thAt l i).f0.length c) ∧ W.cell? ⟨q, i * 3 + 1, none⟩ = some (.int .i64 (thAt l i).f1) ∧ W.cell? ⟨q, i * 3 + 2, none⟩ = some (.bool (thAt l i).f2) ∧ ps[i]? = some (.slice A (thAt l i).f0.length c) := by
  obtain ⟨q', cap', A, c, e1, hqo, y0, y1, y2, hpe, hpc, hpC⟩ := h.at_ i hi
  injection e1 with e1 e2 e3
  injection e1 with e1
  injection e1 with e1
  subst e1
  rw [thAt_eq hi]
  exact ⟨A, c, y0, y1, y2, by rw [List.getElem?_eq_getElem (by have := h.len; omega), hpe]⟩
theorem MS.atC {W : World} {ok : Nat → Prop} {g : Nat} {kind : Int} {mk : Bool} {v : Value} {ps : List Value} {l : List Th} (h : MS W ok g kind mk v ps l) {i : Nat} (hi : i < l.length) {A : Option Addr} {c n : Nat} {fs : List Int} (hp : ps[i]? = some (.slice A n c)) (hf : (thAt l i).f0 = fs) : (Kd.int .i64).C W A fs.length fs := by
  obtain ⟨A', c', e, hc, hC⟩ := h.placesC i hi
  rw [List.getElem?_eq_getElem (by have := h.len; omega), e] at hp
  injection hp with hp
  injection hp with h1 h2 h3
  subst h1
  rw [← hf, thAt_eq hi]
  exact hC
set_option maxHeartbeats 8000000 in
set_option maxRecDepth 100000 in
theorem step_calls (w : World) {ok : Nat → Prop} {g : Nat} {kind : Int} {mk : Bool} {v : Value} {ps : List Value} {l : List Th} (h : MS w ok g kind mk v ps l) (ho : OkL l) :
    Calls Try.prog 74 #[.pointer (some ⟨g, 0, none⟩)] w fun e w' => e = .returned (.bool (stepL mk l).2) ∧ MS w' ok g kind mk v ps (stepL mk l).1 ∧ Fr ok w w' := by
  have c2 := h.c2
  have HCALL := Aside0.mk (idx_calls w h ho.len)
  have HM := Aside0.mk h
  have HO := Aside0.mk ho
  rcases idxG_cases l with ⟨e1, hno⟩ | ⟨i, hi, e1, hc⟩
  · have HE : Aside0 (stepL mk l = (l, false)) := ⟨by unfold stepL; rw [e1]; rfl⟩
    rw [e1] at HCALL
    clear h ho hno e1
    go_enter Try.func74, Try.ntmps74
    go_wp2_with fail
    refine HCALL.out.mono ?_
    rintro e w1 ⟨rfl, hb⟩
    have HB := Aside0.mk hb
    clear hb
    go_wp2_with fail
    go_ret
    rw [HE.out]
    exact ⟨rfl, HM.out.below (by repeat (first | exact HB.out | apply below_alloc | apply pw_below_drewN | apply below_drew1)), Fr.of_below (by repeat (first | exact HB.out | apply below_alloc | apply pw_below_drewN | apply below_drew1))⟩
  · have HE : Aside0 (stepL mk l = (shadesL mk (thAt l i).f0 (setC l i 2), true)) := ⟨by unfold stepL; rw [e1, if_neg (by omega), Int.toNat_natCast]⟩
    rw [e1] at HCALL
    obtain ⟨q, cap, rfl⟩ := h.vform (by omega)
    have hd0 : decide ((i : Int) < 0) = false := decide_eq_false (by omega)
    have hi0 : (0 : Int) ≤ (i : Int) := by omega
    have hi1 : (i : Int) < (l.length : Int) := by omega
    have HI := Aside0.mk hi
    have HQ := Aside0.mk (h.vok q rfl)
    clear h ho hc e1
    go_enter Try.func74, Try.ntmps74
    go_wp2_with fail
    refine HCALL.out.mono ?_
    rintro e w1 ⟨rfl, hb⟩
    have HM1 := Aside0.mk (HM.out.below hb)
    have c2' := HM1.out.c2
    obtain ⟨x0, x1, x2⟩ := HM1.out.cells i HI.out
    have hz := HM1.out.vz (i * 3 + 1)
    have HM2 := Aside0.mk (MS.setC HM1.out i HI.out 2)
    have HB := Aside0.mk hb
    have HF2 : Aside0 (Fr ok w (w1.setCell ⟨q, i * 3 + 1, none⟩ (.int .i64 2))) := ⟨Fr.set (Fr.of_below hb) (.inl HQ.out) _⟩
    have hl2 : (Mrk.setC l i 2).length = l.length := setC_len _ _ _
    have hi2 : i < (Mrk.setC l i 2).length := by rw [hl2]; exact hi
    have hf2 := hasL_at (setC_has l i 2) i
    obtain ⟨A, c, y0, y1, y2, hpe⟩ := HM2.out.at' i hi2
    have hc2 := HM2.out.c2
    rw [hf2] at y0 hpe
    obtain ⟨fs, hfs⟩ : ∃ fs, fs = (thAt l i).f0 := ⟨_, rfl⟩
    have HPO : Aside0 (fs.length ≤ 1000 ∧ ∀ k ∈ fs, k < (l.length : Int)) := ⟨by rw [hfs, thAt_eq hi]; exact HO.out.pl _ (List.getElem_mem hi)⟩
    rw [← hfs] at y0 hpe HE
    have HFS : Aside0 (∀ l3, hasL l3 = hasL l → (thAt l3 i).f0 = fs) := ⟨fun l3 h3 => by rw [hfs]; exact hasL_at h3 i⟩
    have HPE := Aside0.mk hpe
    have HL2 := Aside0.mk hl2
    have HH2 := Aside0.mk (setC_has l i 2)
    generalize Mrk.setC l i 2 = l2 at HE HM2 HL2 HH2
    clear hf2 y1 y2 hpe hfs hb hl2 hi2 HCALL
    go_wp2_with fail
    go_loopg [29] fs.length (fun kq v29 W => ∃ (j : Nat), v29 = .int .i64 (j : Int) ∧ Aside0 (j ≤ fs.length ∧ kq = fs.length - j) ∧ Aside0 (MS W ok g kind mk (.slice (some ⟨q, 0, none⟩) l.length cap) ps (shadesL mk (fs.take j) l2)) ∧ Aside0 (Fr ok w W))
    case atStart => exact ⟨0, rfl, ⟨Nat.zero_le _, by omega⟩, ⟨by simpa [shadesL] using HM2.out⟩, HF2⟩
    case round =>
      clear hc2 c2' x0 x1 x2 y0 hz
      obtain ⟨j, rfl, HJ, HW, HF⟩ := hrel
      have hh3 : hasL (shadesL mk (fs.take j) l2) = hasL l := (shadesL_has _ _ _).trans HH2.out
      by_cases hlt : j < fs.length
      · have hl3 := hasL_len hh3
        have hC := HW.out.atC (i := i) (by omega) HPE.out (HFS.out _ hh3)
        obtain ⟨ad, e, hx⟩ := Kd.at_int hC (j : Int) (by omega) (by omega)
        rw [Int.toNat_natCast] at hx
        subst e
        have hj0 : (0 : Int) ≤ (j : Int) := by omega
        have hj1 : (j : Int) < (fs.length : Int) := by omega
        have hdec : decide ((j : Int) < (fs.length : Int)) = true := decide_eq_true hj1
        have hdec2 : decide (j < fs.length) = true := decide_eq_true hlt
        have HLT := Aside0.mk hlt
        have hrd : rd fs j = fs[j] := by unfold rd; simp [List.getD_eq_getElem?_getD, hlt]
        have hkl := HPO.out.2 _ (List.getElem_mem hlt)
        have HSN : Aside0 (shadesL mk (fs.take (j + 1)) l2 = shadeL mk (rd fs j) (shadesL mk (fs.take j) l2)) := ⟨by rw [List.take_succ_eq_append_getElem hlt, shadesL_snoc, hrd]⟩
        have HCALL := Aside0.mk (shade_calls wr (rd fs j) HW.out (by rw [hrd, hl3]; exact hkl))
        generalize rd fs j = y at hx HSN HCALL
        clear hrd hkl hC hl3 hh3
        go_wp2_with fail
        refine HCALL.out.mono ?_
        rintro e w2 ⟨rfl, hm, hf⟩
        go_wp2_with fail
        go_roundg (fs.length - (j + 1))
        case measure => have := HJ.out; have := HLT.out; omega
        case rel => exact ⟨j + 1, by first | rfl | (have := HLT.out; have := HPO.out.1; rw [show wrap64 ((j : Int) + 1) = ((j + 1 : Nat) : Int) from by unfold wrap64; omega]), ⟨by have := HLT.out; omega, rfl⟩, ⟨by rw [HSN.out]; exact hm⟩, ⟨HF.out.trans hf⟩⟩
      · have e_ : j = fs.length := by have := HJ.out; omega
        subst e_
        have hdec : decide ((fs.length : Int) < (fs.length : Int)) = false := decide_eq_false (by omega)
        have hdec2 : decide (fs.length < fs.length) = false := decide_eq_false hlt
        clear hlt HJ
        go_wp2_with fail
        go_ret
        rw [HE.out]
        have h_ := HW.out
        rw [List.take_length] at h_
        exact ⟨rfl, h_, HF.out⟩
end Go.Proofs.Ytnimidkeoocchaa.Mrk
