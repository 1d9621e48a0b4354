/- Package mark: end walked. -/
import Derived.Test.YtnimidkeoocchaaMarkBe
set_option linter.unusedVariables false
set_option linter.unusedSimpArgs false
namespace Go.Proofs.Ytnimidkeoocchaa.Mrk
open Go.RowKit Go.Proofs.YtnimidkeoocchaaW.PrintWords Go.Proofs.YtnimidkeoocchaaW.PrintLast Go.Proofs.YtnimidkeoocchaaW.PrintMore Go.Proofs.Ytnimidkeoocchaa.PK Go.Proofs.Ytnimidkeoocchaa.Hnd

theorem Sep.none_ {ps : List Value} (h : Sep ps) (i : Nat) : Sep (ps.set i (.slice none 0 0)) := by
  intro a b ha hb hne k hk
  have ha' : a < ps.length := by simpa using ha
  have hb' : b < ps.length := by simpa using hb
  rw [List.getElem_set] at hk
  rw [List.getElem_set]
  split at hk
  · simp [Value.ownBlock] at hk
  · split
    · simp [Value.ownBlock]
    · exact h a b ha' hb' hne k hk
theorem MS.gone {W : World} {ok : Nat → Prop} {g : Nat} {kind : Int} {mk : Bool} {ps : List Value} {l : List Th} {q cap : Nat} (h : MS W ok g kind mk (.slice (some ⟨q, 0, none⟩) l.length cap) ps l) (i : Nat) (hi : i < l.length) (c : Int) (b : Bool) :
    MS (((W.setCell ⟨q, i * 3, none⟩ (.slice none 0 0)).setCell ⟨q, i * 3 + 1, none⟩ (.int .i64 c)).setCell ⟨q, i * 3 + 2, none⟩ (.bool b)) ok g kind mk (.slice (some ⟨q, 0, none⟩) l.length cap) (ps.set i (.slice none 0 0)) (l.set i ⟨[], c, b⟩) := by
  obtain ⟨r1, g1⟩ := World.ownsRow.stored h.row (i * 3) (.slice none 0 0)
  obtain ⟨r2, g2⟩ := World.ownsRow.stored r1 (i * 3 + 1) (.int .i64 c)
  obtain ⟨r3, g3⟩ := World.ownsRow.stored r2 (i * 3 + 2) (.bool b)
  rw [cellsT_set3 ps l i (.slice none 0 0) ⟨[], c, b⟩ h.len hi] at r3
  have hblk : ∀ k, k < W.heap.size → some k ≠ some q → (((W.setCell ⟨q, i * 3, none⟩ (.slice none 0 0)).setCell ⟨q, i * 3 + 1, none⟩ (.int .i64 c)).setCell ⟨q, i * 3 + 2, none⟩ (.bool b)).heap[k]? = W.heap[k]? := by
    intro k hk hne
    exact ((g3.block k (Nat.lt_of_lt_of_le hk (Nat.le_trans g1.size g2.size)) hne).trans (g2.block k (Nat.lt_of_lt_of_le hk g1.size) hne)).trans (g1.block k hk hne)
  refine ⟨h.gok, (hblk g (blk_lt h.obj) (fun e => h.v_g q rfl (Option.some.inj e).symm)).trans h.obj, by rw [List.length_set]; exact r3, by simp [h.len], fun j hj => ?_, h.vok, fun p hp k hk => ?_, h.sep.none_ i⟩
  · have hj' : j < l.length := by simpa using hj
    by_cases e : i = j
    · subst e
      rw [List.getElem_set_self, List.getElem_set_self]
      exact World.ownsRow_nil _ _ _ _
    · rw [List.getElem_set_ne e, List.getElem_set_ne e]
      have hp := h.pl j hj'
      exact own_same hp (fun k hk => hblk k (hp.lt k hk).2 (fun e2 => (h.p_g j hj' k hk).2 (by rw [e2]; rfl)))
  · rcases List.mem_or_eq_of_mem_set hp with h1 | h1
    · exact h.pok p h1 k hk
    · subst h1; simp [Value.ownBlock] at hk
def endAt (l : List Th) (i : Nat) : List Th := (l.take i).map end1 ++ l.drop i
theorem endAt_len (l : List Th) (i : Nat) : (endAt l i).length = l.length := by simp [endAt]; omega
theorem endAt_get {l : List Th} {i : Nat} (hi : i < l.length) : thAt (endAt l i) i = l[i] := by
  rw [thAt_eq (by rw [endAt_len]; exact hi)]
  unfold endAt
  rw [List.getElem_append_right (by simp; omega)]
  simp [Nat.min_eq_left (Nat.le_of_lt hi)]
theorem endAt_next {l : List Th} {i : Nat} (hi : i < l.length) : (endAt l i).set i (end1 l[i]) = endAt l (i + 1) := by
  unfold endAt
  rw [List.set_append_right _ _ (by simp; omega), List.take_succ_eq_append_getElem hi, List.map_append, List.append_assoc]
  congr 1
  rw [List.drop_eq_getElem_cons hi]
  simp [Nat.min_eq_left (Nat.le_of_lt hi)]
  rw [List.drop_eq_getElem_cons hi]; rfl
theorem whites_next {l : List Th} {i : Nat} (hi : i < l.length) : whites (l.take (i + 1)) = whites (l.take i) + (if l[i].f1 = 0 then 1 else 0) := by
  unfold whites
  rw [List.take_succ_eq_append_getElem hi, List.countP_append]
  simp [List.countP_cons]
theorem whites_le (l : List Th) : whites l ≤ l.length := List.countP_le_length
set_option maxHeartbeats 8000000 in
set_option maxRecDepth 100000 in
theorem end_not (w : World) {ok : Nat → Prop} {g : Nat} {kind : Int} {v : Value} {ps : List Value} {l : List Th} (h : MS w ok g kind false v ps l) :
    Calls Try.prog 52 #[.pointer (some ⟨g, 0, none⟩)] w fun e w' => e = .returned (.tuple #[.int .i64 0, .int .i64 8]) ∧ Below w.heap.size w w' := by
  have c1 := h.c1
  clear h
  go_enter Try.func52, Try.ntmps52
  go_wp2
  go_ret2
  exact ⟨rfl, by repeat (first | exact Below.refl _ _ | apply below_alloc | apply pw_below_drewN | apply below_drew1)⟩
set_option maxHeartbeats 8000000 in
set_option maxRecDepth 100000 in
theorem end_calls (w : World) {ok : Nat → Prop} {g : Nat} {kind : Int} {v : Value} {ps : List Value} {l : List Th} (h : MS w ok g kind true v ps l) (ho : OkL l) :
    Calls Try.prog 52 #[.pointer (some ⟨g, 0, none⟩)] w fun e w' => e = .returned (.tuple #[.int .i64 (whites (finL true (meas l + 1) l) : Int), .int .i64 0]) ∧ (∃ ps', MS w' ok g kind false v ps' ((finL true (meas l + 1) l).map end1)) ∧ Fr ok w w' := by
  have c1 := h.c1
  have HM := Aside0.mk h
  have HO := Aside0.mk ho
  obtain ⟨r, hr⟩ : ∃ r, r = finL true (meas l + 1) l := ⟨_, rfl⟩
  rw [← hr]
  have HR := Aside0.mk hr
  have HZ := Aside0.mk ho.len
  clear h ho hr
  go_enter Try.func52, Try.ntmps52
  go_wp2
  go_loopg [12] (meas l + 1) (fun kq v12 W => ∃ (l' : List Th), Aside0 (meas l' < kq ∧ finL true kq l' = r) ∧ Aside0 (hasL l' = hasL l) ∧ Aside0 (MS W ok g kind true v ps l') ∧ Aside0 (Fr ok w W))
  case atStart => exact ⟨l, ⟨by omega, HR.out.symm⟩, ⟨rfl⟩, HM, ⟨Fr.refl _ _⟩⟩
  case round =>
    obtain ⟨l', HQ, HH, HW, HF⟩ := hrel
    cases gk with
    | zero => exact absurd HQ.out.1 (by omega)
    | succ k1 =>
      have hrr := HQ.out.2
      rw [finL] at hrr
      have HCALL := Aside0.mk (step_calls wr HW.out (HO.out.of_has HH.out))
      cases hq : (stepL true l').2 with
      | true =>
        rw [hq, if_pos rfl] at hrr
        have HRR := Aside0.mk hrr
        have HME := Aside0.mk (stepL_meas true l' hq)
        have HHE := Aside0.mk ((stepL_has true l').trans HH.out)
        rw [hq] at HCALL
        generalize (stepL true l').1 = l2 at HRR HME HHE HCALL
        clear hrr hq
        go_wp2_with fail
        refine HCALL.out.mono ?_
        rintro e w2 ⟨rfl, hm, hf⟩
        go_wp2_with fail
        go_roundg k1
        case measure => omega
        case rel =>
          refine ⟨l2, ⟨?_⟩, HHE, ⟨hm⟩, ⟨HF.out.trans hf⟩⟩
          have := HQ.out; have := HME.out; exact ⟨by omega, HRR.out⟩
      | false =>
        rw [hq, if_neg (by decide)] at hrr
        rw [stepL_no true l' hq, hq] at HCALL
        subst hrr
        have hl' := hasL_len HH.out
        rw [← hl'] at HZ
        obtain ⟨AV, cV, ev, hcv⟩ := own_shape HW.out.row
        subst ev
        clear hq HH HQ HM HO HR hl' c1
        go_wp2_with fail
        refine HCALL.out.mono ?_
        rintro e w2 ⟨rfl, hm, hf⟩
        have c2 := hm.c2
        have HM2 := Aside0.mk hm
        have HF2 := Aside0.mk (HF.out.trans hf)
        clear hm hf HW HF
        go_wp2_with fail
        go_loopg [4, 18] l'.length (fun kq v4 v18 W => ∃ (i : Nat) (ps1 : List Value), v18 = .int .i64 (i : Int) ∧ v4 = .int .i64 (whites (l'.take i) : Int) ∧ Aside0 (i ≤ l'.length ∧ kq = l'.length - i) ∧ Aside0 (MS W ok g kind true (.slice AV l'.length cV) ps1 (endAt l' i)) ∧ Aside0 (Fr ok w W))
        case atStart => exact ⟨0, ps, rfl, rfl, ⟨Nat.zero_le _, by omega⟩, ⟨by simpa [endAt] using HM2.out⟩, HF2⟩
        case round =>
          clear HM2 HF2 HCALL c2
          obtain ⟨i, ps1, rfl, rfl, HIQ, HW, HF⟩ := hrel
          have c2 := HW.out.c2
          by_cases hlt : i < l'.length
          · have hle : i < (endAt l' i).length := by rw [endAt_len]; exact hlt
            obtain ⟨q, cap, e1⟩ := HW.out.vform (by omega)
            injection e1 with e1 e2 e3
            subst e1
            clear e2 e3
            obtain ⟨A, c, y0, y1, y2, hpe⟩ := HW.out.at' i hle
            have HWl : Aside0 (MS wr ok g kind true (.slice (some ⟨q, 0, none⟩) (endAt l' i).length cV) ps1 (endAt l' i)) := ⟨by rw [endAt_len]; exact HW.out⟩
            have z0 := HWl.out.vz (i * 3)
            have z1 := HWl.out.vz (i * 3 + 1)
            have z2 := HWl.out.vz (i * 3 + 2)
            have HQO := Aside0.mk (HW.out.vok q rfl)
            have hi0 : (0 : Int) ≤ (i : Int) := by omega
            have hi1 : (i : Int) < (l'.length : Int) := by omega
            have hdec : decide ((i : Int) < (l'.length : Int)) = true := decide_eq_true hi1
            have hdec2 : decide (i < l'.length) = true := decide_eq_true hlt
            have HLT := Aside0.mk hlt
            have hgt := endAt_get hlt
            have HNX := Aside0.mk (endAt_next hlt)
            have hwn := whites_next hlt
            have hwh : whites (l'.take i) ≤ 1000 := by
              have h3 := whites_le (l'.take i)
              rw [List.length_take] at h3
              have h4 := HZ.out
              omega
            have HWH := Aside0.mk hwh
            clear hwh
            have HW64 : Aside0 (wrap64 ((i : Int) + 1) = ((i + 1 : Nat) : Int)) := ⟨by have := HZ.out; unfold wrap64; omega⟩
            have HW65 : Aside0 (wrap64 ((whites (l'.take i) : Int) + 1) = ((whites (l'.take i) + 1 : Nat) : Int)) := ⟨by have := HWH.out; unfold wrap64; omega⟩
            rw [hgt] at y1 y2 y0
            by_cases h0 : l'[i].f1 = 0
            · rw [if_pos h0] at hwn
              have HWN := Aside0.mk hwn
              have HG := Aside0.mk (HWl.out.gone i hle 3 false)
              have he1 : end1 l'[i] = ⟨[], 3, false⟩ := by unfold end1; rw [if_pos h0]
              rw [he1] at HNX
              rw [HNX.out, endAt_len] at HG
              rw [h0] at y1
              clear hgt hwn h0 hle he1 hpe
              go_wp2_with fail
              go_roundg (l'.length - (i + 1))
              case measure => have := HIQ.out; have := HLT.out; omega
              case rel =>
                refine ⟨i + 1, _, ?_, ?_, ⟨by have := HLT.out; omega, rfl⟩, HG, ⟨((HF.out.set (.inl HQO.out) _).set (.inl HQO.out) _).set (.inl HQO.out) _⟩⟩
                · first | rfl | rw [HW64.out]
                · rw [HWN.out]; first | rfl | rw [HW65.out]
            · rw [if_neg h0] at hwn
              have HWN := Aside0.mk hwn
              have hb0 : (l'[i].f1 == 0) = false := by simpa using h0
              by_cases h2 : l'[i].f1 = 2
              · have HG := Aside0.mk (HWl.out.setC i hle 0)
                have he1 : end1 l'[i] = ⟨(thAt (endAt l' i) i).f0, 0, (thAt (endAt l' i) i).f2⟩ := by unfold end1; rw [if_neg h0, if_pos h2, hgt]
                rw [he1] at HNX
                have HG2 : Aside0 (MS (wr.setCell ⟨q, i * 3 + 1, none⟩ (.int .i64 0)) ok g kind true (.slice (some ⟨q, 0, none⟩) l'.length cV) ps1 (endAt l' (i + 1))) := ⟨by have h_ := HG.out; unfold Mrk.setC at h_; rw [HNX.out, endAt_len] at h_; exact h_⟩
                rw [h2] at y1
                clear hgt hwn h0 hle he1 hpe h2 HG hb0
                go_wp2_with fail
                go_roundg (l'.length - (i + 1))
                case measure => have := HIQ.out; have := HLT.out; omega
                case rel =>
                  refine ⟨i + 1, _, ?_, ?_, ⟨by have := HLT.out; omega, rfl⟩, HG2, ⟨HF.out.set (.inl HQO.out) _⟩⟩
                  · first | rfl | rw [HW64.out]
                  · rw [HWN.out, Nat.add_zero]
              · have he1 : end1 l'[i] = l'[i] := by unfold end1; rw [if_neg h0, if_neg h2]
                have hb2 : (l'[i].f1 == 2) = false := by simpa using h2
                have HG2 : Aside0 (MS wr ok g kind true (.slice (some ⟨q, 0, none⟩) l'.length cV) ps1 (endAt l' (i + 1))) := ⟨by
                  have h_ := HW.out
                  have e_ : endAt l' (i + 1) = endAt l' i := by
                    rw [← HNX.out, he1, ← hgt, thAt_eq hle]; exact List.set_getElem_self _
                  rw [e_]; exact h_⟩
                generalize l'[i].f1 = x1 at y1 hb0 hb2
                clear hgt hwn h0 hle he1 hpe h2 HNX
                go_wp2_with fail
                go_roundg (l'.length - (i + 1))
                case measure => have := HIQ.out; have := HLT.out; omega
                case rel =>
                  refine ⟨i + 1, _, ?_, ?_, ⟨by have := HLT.out; omega, rfl⟩, HG2, HF⟩
                  · first | rfl | rw [HW64.out]
                  · rw [HWN.out, Nat.add_zero]
          · have e_ : i = l'.length := by have := HIQ.out; omega
            subst e_
            have hdec : decide ((l'.length : Int) < (l'.length : Int)) = false := decide_eq_false (by omega)
            have hdec2 : decide (l'.length < l'.length) = false := decide_eq_false hlt
            have HG := Aside0.mk (HW.out.marks false)
            have z1 := HW.out.z 1
            have c1 := HW.out.c1
            have HGO := Aside0.mk HW.out.gok
            clear hlt HIQ HW
            go_wp2_with fail
            go_ret2
            have h_ := HG.out
            unfold endAt at h_
            rw [List.take_length, List.drop_length, List.append_nil] at h_
            refine ⟨?_, ⟨_, h_⟩, HF.out.set (.inl HGO.out) _⟩
            first | rfl | (rw [List.take_length]; rfl)
end Go.Proofs.Ytnimidkeoocchaa.Mrk
