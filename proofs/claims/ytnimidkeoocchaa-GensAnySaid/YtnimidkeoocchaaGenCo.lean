/- Package gens: collect walked. -/
import Derived.Test.YtnimidkeoocchaaGenNm
import Derived.Test.YtnimidkeoocchaaShelf
set_option linter.unusedVariables false
set_option linter.unusedSimpArgs false
namespace Go.Proofs.Ytnimidkeoocchaa.Gen
open Go.RowKit Go.Proofs.YtnimidkeoocchaaW.PrintWords Go.Proofs.YtnimidkeoocchaaW.PrintLast Go.Proofs.YtnimidkeoocchaaW.PrintMore Go.Proofs.Ytnimidkeoocchaa.PG Go.Proofs.Ytnimidkeoocchaa.Hnd

theorem goneL_len (st : List Bool) (ages : List Int) (l : List Th) : (goneL st ages l).length = l.length := mapAt_len _ _ _
theorem collL_len (st : List Bool) (ages : List Int) (l : List Th) : (collL st ages l).length = l.length := by unfold collL; rw [mapAt_len, goneL_len]
theorem OkL.at_ {l : List Th} (h : OkL l) {n : Nat} (hn : n < l.length) : (thAt l n).f0.length ≤ 1000 ∧ ∀ k ∈ (thAt l n).f0, k < l.length := by rw [thAt_eq hn]; exact h.pl _ (List.getElem_mem hn)
theorem okL_of {l : List Th} {m : Nat} (hm : m = l.length) (hz : m ≤ 1000) (h : ∀ n, n < m → (thAt l n).f0.length ≤ 1000 ∧ ∀ k ∈ (thAt l n).f0, k < m) : OkL l := by
  subst hm
  refine ⟨hz, fun x hx => ?_⟩
  obtain ⟨n, hn, rfl⟩ := List.getElem_of_mem hx
  have := h n hn
  rwa [thAt_eq hn] at this
theorem goneL_at {st : List Bool} {ages : List Int} {l : List Th} {n : Nat} (hn : n < l.length) : thAt (goneL st ages l) n = p1 st ages n (thAt l n) := by unfold goneL; rw [mapAt_at hn, if_pos hn]
theorem collL_at {st : List Bool} {ages : List Int} {l : List Th} {n : Nat} (hn : n < l.length) : thAt (collL st ages l) n = p2 (goneL st ages l) n (p1 st ages n (thAt l n)) := by
  unfold collL; rw [mapAt_at (by rw [goneL_len]; exact hn), if_pos (by rw [goneL_len]; exact hn), goneL_at hn]
theorem goneL_ok {st : List Bool} {ages : List Int} {l : List Th} (h : OkL l) : OkL (goneL st ages l) := by
  refine okL_of (goneL_len _ _ _).symm h.len fun n hn => ?_
  rw [goneL_at hn]
  have := h.at_ hn
  unfold p1
  split
  · split
    · exact this
    · exact ⟨by simp, fun k hk => by simp at hk⟩
  · exact this
theorem cutI_cases (l : List Th) (k : Int) : (cutI l k = -1 ∧ 0 ≤ k ∧ (thAt l k.toNat).f1 = 2) ∨ (cutI l k = k ∧ ¬ (0 ≤ k ∧ (thAt l k.toNat).f1 = 2)) := by
  unfold cutI
  split
  · rename_i h; exact .inl ⟨rfl, h⟩
  · rename_i h; exact .inr ⟨rfl, h⟩
theorem collL_ok {st : List Bool} {ages : List Int} {l : List Th} (h : OkL l) : OkL (collL st ages l) := by
  refine okL_of (collL_len _ _ _).symm h.len fun n hn => ?_
  rw [collL_at hn, ← goneL_at hn]
  have := (goneL_ok (st := st) (ages := ages) h).at_ (n := n) (by rw [goneL_len]; exact hn)
  rw [goneL_len] at this
  refine ⟨by unfold p2; simpa using this.1, fun k hk => ?_⟩
  unfold p2 at hk
  obtain ⟨y, hy, rfl⟩ := List.mem_map.1 hk
  have h2 := this.2 y hy
  rcases cutI_cases (goneL st ages l) y with ⟨e, _⟩ | ⟨e, _⟩ <;> rw [e]
  · omega
  · exact h2
set_option maxHeartbeats 16000000 in
set_option maxRecDepth 100000 in
theorem collect_calls (w : World) {ok : Nat → Prop} {g : Nat} {nur : Int} {mb cn : Nat} {rm : Int → Bool} {v : Value} {ps : List Value} {l : List Th} (h : GS w ok g nur mb cn rm v ps l) (ho : OkL l)
    (st : List Bool) (AS : Option Addr) (cS : Nat) (hs : ∀ W, Fr ok w W → Kd.bool.C W AS st.length st) (hsl : st.length = l.length)
    (ages : List Int) (ba ca : Nat) (ha : ∀ W, Fr ok w W → ∀ j, j < ages.length → W.cell? ⟨ba, 0 + j, none⟩ = some (.int .i64 (ages.getD j 0))) (hal : ages.length ≤ 10) :
    Calls Try.prog 68 #[.pointer (some ⟨g, 0, none⟩), .slice AS st.length cS, .slice (some ⟨ba, 0, none⟩) ages.length ca] w fun e w' => e = .returned (.int .i64 (collN st ages l : Int)) ∧ (∃ ps', GS w' ok g nur mb 0 (fun _ => false) v ps' (collL st ages l)) ∧ Fr ok w w' := by
  have HM := Aside0.mk h
  have HO := Aside0.mk ho
  have HZ := Aside0.mk ho.len
  have HS := Aside0.mk hs
  have HSL := Aside0.mk hsl
  have HA := Aside0.mk ha
  have HAL := Aside0.mk hal
  have c1 := h.c1
  obtain ⟨AV, cV, ev, hcv⟩ := own_shape h.row
  subst ev
  have HCO : Aside0 (∀ W, Fr ok w W → ∀ x, Calls Try.prog 64 #[.slice (some ⟨ba, 0, none⟩) ages.length ca, .int .i64 x] W fun e w' => e = .returned (.bool (ages.contains x)) ∧ w' = W) := ⟨fun W hW x => by
    have h_ := Try.slices_Contains_int ba 0 ages.length ca ages x W (Nat.le_refl _) (by omega) (ha W hW)
    rwa [List.take_length] at h_⟩
  have hmt := Try.underlying59
  clear h ho hs hsl ha hal
  go_enter Try.func68, Try.ntmps68
  go_wp2
  go_loopg [7, 18] l.length (fun kq v7 v18 W => ∃ (i : Nat) (ps1 : List Value) (rm1 : Int → Bool), v18 = .int .i64 (i : Int) ∧ v7 = .int .i64 (goneN st ages l i : Int) ∧ Aside0 (i ≤ l.length ∧ kq = l.length - i) ∧ Aside0 (GS W ok g nur mb cn rm1 (.slice AV l.length cV) ps1 (mapAt (p1 st ages) l i)) ∧ Aside0 (Fr ok w W))
  case atStart => exact ⟨0, ps, rm, rfl, rfl, ⟨Nat.zero_le _, by omega⟩, ⟨by rw [mapAt_zero]; exact HM.out⟩, ⟨Fr.refl _ _⟩⟩
  case round =>
    clear c1
    obtain ⟨i, ps1, rm1, rfl, rfl, HIQ, HW, HF⟩ := hrel
    have c1 := HW.out.c1
    have c2 := HW.out.c2
    by_cases hlt : i < l.length
    · have hle : i < (mapAt (p1 st ages) l i).length := by rw [mapAt_len]; exact hlt
      obtain ⟨q, cap, e1⟩ := HW.out.vform (by omega)
      injection e1 with e1 e2 e3
      subst e1
      clear e2 e3
      obtain ⟨A, c, y0, y1, y2, hpe⟩ := HW.out.at' i hle
      have HWl : Aside0 (GS wr ok g nur mb cn rm1 (.slice (some ⟨q, 0, none⟩) (mapAt (p1 st ages) l i).length cV) ps1 (mapAt (p1 st ages) l i)) := ⟨by rw [mapAt_len]; exact HW.out⟩
      have z0 := HWl.out.vz (i * 3)
      have z1 := HWl.out.vz (i * 3 + 1)
      have z2 := HWl.out.vz (i * 3 + 2)
      have HQO := Aside0.mk (HW.out.vok q rfl)
      have hi0 : (0 : Int) ≤ (i : Int) := by omega
      have hi1 : (i : Int) < (l.length : Int) := by omega
      have hi2 : (i : Int) < (st.length : Int) := by have := HSL.out; omega
      have hdec : decide ((i : Int) < (l.length : Int)) = true := decide_eq_true hi1
      have hdec2 : decide (i < l.length) = true := decide_eq_true hlt
      have HLT := Aside0.mk hlt
      have hgt : thAt (mapAt (p1 st ages) l i) i = thAt l i := by rw [mapAt_at hlt, if_neg (Nat.lt_irrefl _)]
      have HNX := Aside0.mk (mapAt_next (F := p1 st ages) hlt)
      have hwn := goneN_next st ages l i
      have HWH := Aside0.mk (goneN_le st ages l i)
      have HW64 : Aside0 (wrap64 ((i : Int) + 1) = ((i + 1 : Nat) : Int)) := ⟨by have := HZ.out; unfold wrap64; omega⟩
      have HW65 : Aside0 (wrap64 ((goneN st ages l i : Int) + 1) = ((goneN st ages l i + 1 : Nat) : Int)) := ⟨by have := HWH.out; have := HZ.out; unfold wrap64; omega⟩
      rw [hgt] at y0 y1 y2
      have HCALL := Aside0.mk (HCO.out wr HF.out (thAt l i).f1)
      cases hq : ages.contains (thAt l i).f1 with
      | false =>
        have he1 : p1 st ages i (thAt l i) = thAt l i := by unfold p1; rw [hq, if_neg (by decide)]
        have HG2 : Aside0 (GS wr ok g nur mb cn rm1 (.slice (some ⟨q, 0, none⟩) l.length cV) ps1 (mapAt (p1 st ages) l (i + 1))) := ⟨by
          have e_ : mapAt (p1 st ages) l (i + 1) = mapAt (p1 st ages) l i := by
            rw [← HNX.out, he1, ← hgt, thAt_eq hle]; exact List.set_getElem_self _
          rw [e_]; exact HW.out⟩
        have HWN : Aside0 (goneN st ages l (i + 1) = goneN st ages l i) := ⟨by rw [hwn]; unfold goes; rw [hq, Bool.false_and, if_neg (by decide), Nat.add_zero]⟩
        rw [hq] at HCALL
        generalize (thAt l i).f1 = x1 at y1 HCALL
        clear hgt hwn hle hpe he1 HNX hq y0 y2 z0 z1 z2 hi2
        go_wp2_with fail
        refine HCALL.out.mono ?_
        rintro e w' ⟨rfl, rfl⟩
        go_wp2_with fail
        go_roundg (l.length - (i + 1))
        case measure => have := HIQ.out; have := HLT.out; omega
        case rel => exact ⟨i + 1, _, _, by first | rfl | rw [HW64.out], by rw [HWN.out], ⟨by have := HLT.out; omega, rfl⟩, HG2, HF⟩
      | true =>
        have HG1 := Aside0.mk (HWl.out.setC i hle 1)
        have HF1 : Aside0 (Fr ok w (wr.setCell ⟨q, i * 3 + 1, none⟩ (.int .i64 1))) := ⟨HF.out.set (.inl HQO.out) _⟩
        obtain ⟨ad, e_, hx⟩ := Kd.at_bool (HS.out _ HF1.out) (i : Int) hi0 hi2
        have hrd : rdOf false st (i : Int) = st.getD i false := by unfold rdOf; simp
        rw [hrd, Int.toNat_natCast] at hx
        subst e_
        cases hb : st.getD i false with
        | true =>
          have he1 : p1 st ages i (thAt l i) = ⟨(thAt (mapAt (p1 st ages) l i) i).f0, 1, (thAt (mapAt (p1 st ages) l i) i).f2⟩ := by rw [hgt]; unfold p1; rw [hq, if_pos rfl, hb, if_pos rfl]
          have HG2 : Aside0 (GS (wr.setCell ⟨q, i * 3 + 1, none⟩ (.int .i64 1)) ok g nur mb cn rm1 (.slice (some ⟨q, 0, none⟩) l.length cV) ps1 (mapAt (p1 st ages) l (i + 1))) := ⟨by
            have h_ := HG1.out
            unfold Gen.setC at h_
            rw [← he1, HNX.out, mapAt_len] at h_
            exact h_⟩
          have HWN : Aside0 (goneN st ages l (i + 1) = goneN st ages l i) := ⟨by rw [hwn]; unfold goes; rw [hq, hb, if_neg (by decide), Nat.add_zero]⟩
          rw [hq] at HCALL
          rw [hb] at hx
          generalize (thAt l i).f1 = x1 at y1 HCALL
          clear hgt hwn hle hpe he1 HNX hq hb y0 y2 z0 z2 hrd
          go_wp2_with fail
          refine HCALL.out.mono ?_
          rintro e w' ⟨rfl, rfl⟩
          go_wp2_with fail
          go_roundg (l.length - (i + 1))
          case measure => have := HIQ.out; have := HLT.out; omega
          case rel => exact ⟨i + 1, _, _, by first | rfl | rw [HW64.out], by rw [HWN.out], ⟨by have := HLT.out; omega, rfl⟩, HG2, HF1⟩
        | false =>
          have he1 : p1 st ages i (thAt l i) = ⟨[], 2, false⟩ := by unfold p1; rw [hq, if_pos rfl, hb, if_neg (by decide)]
          have HG2 : Aside0 (GS ((((wr.setCell ⟨q, i * 3 + 1, none⟩ (.int .i64 1)).setCell ⟨q, i * 3, none⟩ (.slice none 0 0)).setCell ⟨q, i * 3 + 1, none⟩ (.int .i64 2)).setCell ⟨q, i * 3 + 2, none⟩ (.bool false)) ok g nur mb cn rm1 (.slice (some ⟨q, 0, none⟩) l.length cV) (ps1.set i (.slice none 0 0)) (mapAt (p1 st ages) l (i + 1))) := ⟨by
            have h_ := HG1.out
            rw [← setC_len (mapAt (p1 st ages) l i) i 1] at h_
            have h2_ := h_.gone i (by rw [setC_len]; exact hle) 2 false
            rw [← he1] at h2_
            have e_ : (Gen.setC (mapAt (p1 st ages) l i) i 1).set i (p1 st ages i (thAt l i)) = mapAt (p1 st ages) l (i + 1) := by unfold Gen.setC; rw [List.set_set, HNX.out]
            rw [e_, setC_len, mapAt_len] at h2_
            exact h2_⟩
          have HF2 : Aside0 (Fr ok w ((((wr.setCell ⟨q, i * 3 + 1, none⟩ (.int .i64 1)).setCell ⟨q, i * 3, none⟩ (.slice none 0 0)).setCell ⟨q, i * 3 + 1, none⟩ (.int .i64 2)).setCell ⟨q, i * 3 + 2, none⟩ (.bool false))) := ⟨((HF1.out.set (.inl HQO.out) _).set (.inl HQO.out) _).set (.inl HQO.out) _⟩
          have HWN : Aside0 (goneN st ages l (i + 1) = goneN st ages l i + 1) := ⟨by rw [hwn]; unfold goes; rw [hq, hb, if_pos (by decide)]⟩
          have c22 := HG2.out.c2
          have HIY : Aside0 (I64 (i : Int)) := ⟨by have := HLT.out; have := HZ.out; unfold I64; omega⟩
          rw [hq] at HCALL
          rw [hb] at hx
          generalize (thAt l i).f1 = x1 at y1 HCALL
          clear hgt hwn hle hpe he1 HNX hq hb hrd
          go_wp2_with fail
          refine HCALL.out.mono ?_
          rintro e w' ⟨rfl, rfl⟩
          go_wp2_with (first | (at_delete; refine del_set rfl _ _ rfl Try.underlying3 hmt HG2.out.set rfl (i : Int) rfl HIY.out ?_; intro w5 hs5 hg5))
          have HG5 := Aside0.mk (HG2.out.turned hg5 hs5)
          have HF5 : Aside0 (Fr ok w w5) := ⟨HF2.out.grown hg5 (fun k hk => .inl (by injection hk with hk; subst hk; exact HG2.out.mok))⟩
          go_roundg (l.length - (i + 1))
          case measure => have := HIQ.out; have := HLT.out; omega
          case rel => exact ⟨i + 1, _, _, by first | rfl | rw [HW64.out], by rw [HWN.out]; first | rfl | rw [HW65.out], ⟨by have := HLT.out; omega, rfl⟩, HG5, HF5⟩
    · have e_ : i = l.length := by have := HIQ.out; omega
      subst e_
      have hdec : decide ((l.length : Int) < (l.length : Int)) = false := decide_eq_false (by omega)
      have hdec2 : decide (l.length < l.length) = false := decide_eq_false hlt
      have HRO := Aside0.mk (goneL_ok (st := st) (ages := ages) HO.out)
      have HRL := Aside0.mk (goneL_len st ages l)
      have HCN : Aside0 (collN st ages l = goneN st ages l l.length) := ⟨rfl⟩
      have HCL : Aside0 (collL st ages l = mapAt (p2 (goneL st ages l)) (goneL st ages l) l.length) := ⟨by unfold collL; rw [goneL_len]⟩
      have HW0 : Aside0 (GS wr ok g nur mb cn rm1 (.slice AV l.length cV) ps1 (goneL st ages l)) := HW
      obtain ⟨r, hr⟩ : ∃ r, r = goneL st ages l := ⟨_, rfl⟩
      rw [← hr] at HW0 HRO HRL HCL
      clear hlt HIQ HW hr c2
      go_wp2
      go_loopg [58] l.length (fun kq v58 W => ∃ (i : Nat), v58 = .int .i64 (i : Int) ∧ Aside0 (i ≤ l.length ∧ kq = l.length - i) ∧ Aside0 (GS W ok g nur mb cn rm1 (.slice AV l.length cV) ps1 (mapAt (p2 r) r i)) ∧ Aside0 (Fr ok w W))
      case atStart => exact ⟨0, rfl, ⟨Nat.zero_le _, by omega⟩, ⟨by rw [mapAt_zero]; exact HW0.out⟩, HF⟩
      case round =>
        clear c1 HW0 HF
        obtain ⟨i, rfl, HIQ, HW, HF⟩ := hrel
        obtain ⟨wo, rfl⟩ : ∃ wo, wo = wr := ⟨wr, rfl⟩
        have c1 := HW.out.c1
        by_cases hlt : i < l.length
        · have hri : i < r.length := by rw [HRL.out]; exact hlt
          have hle : i < (mapAt (p2 r) r i).length := by rw [mapAt_len]; exact hri
          obtain ⟨q, cap, e1⟩ := HW.out.vform (by omega)
          injection e1 with e1 e2 e3
          subst e1
          clear e2 e3
          obtain ⟨A, c, y0, y1, y2, hpe⟩ := HW.out.at' i hle
          have hgt : thAt (mapAt (p2 r) r i) i = thAt r i := by rw [mapAt_at hri, if_neg (Nat.lt_irrefl _)]
          rw [hgt] at y0 hpe
          have hi0 : (0 : Int) ≤ (i : Int) := by omega
          have hi1 : (i : Int) < (l.length : Int) := by omega
          have hdec : decide ((i : Int) < (l.length : Int)) = true := decide_eq_true hi1
          have hdec2 : decide (i < l.length) = true := decide_eq_true hlt
          have HLT := Aside0.mk hlt
          have HRI := Aside0.mk hri
          have HPE := Aside0.mk hpe
          have HW64 : Aside0 (wrap64 ((i : Int) + 1) = ((i + 1 : Nat) : Int)) := ⟨by have := HZ.out; unfold wrap64; omega⟩
          have HFO := Aside0.mk (HRO.out.at_ hri)
          have HC0 := Aside0.mk (cutAt_zero hri)
          have HCA := Aside0.mk (cutAt_all hri)
          have HWC : Aside0 (GS wo ok g nur mb cn rm1 (.slice (some ⟨q, 0, none⟩) l.length cV) ps1 (cutAt r i 0)) := ⟨by rw [HC0.out]; exact HW.out⟩
          obtain ⟨fs, hfs⟩ : ∃ fs, fs = (thAt r i).f0 := ⟨_, rfl⟩
          have HFS := Aside0.mk hfs
          rw [← hfs] at y0 HPE HFO HCA
          clear y1 y2 hpe hgt hle hri hfs HW HC0
          go_wp2
          go_loopg [70] fs.length (fun kq v70 W => ∃ (j : Nat), v70 = .int .i64 (j : Int) ∧ Aside0 (j ≤ fs.length ∧ kq = fs.length - j) ∧ Aside0 (GS W ok g nur mb cn rm1 (.slice (some ⟨q, 0, none⟩) l.length cV) ps1 (cutAt r i j)) ∧ Aside0 (Fr ok w W))
          case atStart => exact ⟨0, rfl, ⟨Nat.zero_le _, by omega⟩, HWC, HF⟩
          case round =>
            clear c1 y0 HWC HF
            obtain ⟨j, rfl, HJQ, HW, HF⟩ := hrel
            have c1 := HW.out.c1
            by_cases hj : j < fs.length
            · have hli : i < (cutAt r i j).length := by rw [cutAt_len]; exact HRI.out
              have hf0 : (thAt (cutAt r i j) i).f0 = rowAt r fs j := by rw [cutAt_f0 HRI.out, ← HFS.out]
              have hC := HW.out.atC hli HPE.out hf0
              rw [rowAt_len] at hC
              obtain ⟨pb, eA, _⟩ := placeForm (HW.out.pl i hli) (A := A) (n := fs.length) (c := c) (by have h_ := HPE.out; rw [List.getElem?_eq_getElem (by have := HW.out.len; omega)] at h_; exact Option.some.inj h_) (by rw [← thAt_eq hli, hf0, rowAt_len]; omega)
              subst eA
              obtain ⟨ad, e_, hx⟩ := Kd.at_int hC (j : Int) (by omega) (by omega)
              injection e_ with e_
              subst e_
              rw [Int.toNat_natCast, rdI (by rw [rowAt_len]; exact hj), rowAt_get r hj, add_plain] at hx
              have hkl := HFO.out.2 _ (List.getElem_mem hj)
              have hj0 : (0 : Int) ≤ (j : Int) := by omega
              have hj1 : (j : Int) < (fs.length : Int) := by omega
              have hjdec : decide ((j : Int) < (fs.length : Int)) = true := decide_eq_true hj1
              have hjdec2 : decide (j < fs.length) = true := decide_eq_true hj
              have HJT := Aside0.mk hj
              have HJ64 : Aside0 (wrap64 ((j : Int) + 1) = ((j + 1 : Nat) : Int)) := ⟨by have := HFO.out.1; have := HJT.out; unfold wrap64; omega⟩
              have hjr : j < (thAt r i).f0.length := by rw [← HFS.out]; exact hj
              have HNX : Aside0 (Gen.putL (cutAt r i j) i j (cutI r fs[j]) = cutAt r i (j + 1)) := ⟨by have h_ := cutAt_next (l := r) HRI.out hjr; simp only [← HFS.out] at h_; exact h_⟩
              have HSM : Aside0 (cutI r fs[j] = fs[j] → cutAt r i (j + 1) = cutAt r i j) := ⟨fun e => by have h_ := cutAt_same (l := r) (i := i) hjr; simp only [← HFS.out] at h_; exact h_ e⟩
              have HCI := Aside0.mk (cutI_cases r fs[j])
              rw [HRL.out] at hkl
              by_cases h0 : 0 ≤ fs[j]
              · obtain ⟨m, hm⟩ : ∃ m : Nat, fs[j] = m := ⟨fs[j].toNat, by omega⟩
                rw [hm] at hx hkl HNX HSM HCI
                have hd0 : decide (0 ≤ (m : Int)) = true := decide_eq_true (by omega)
                have hm0 : (0 : Int) ≤ (m : Int) := by omega
                have hml : m < (cutAt r i j).length := by rw [cutAt_len, HRL.out]; omega
                obtain ⟨A2, c2_, x0, x1, x2, hp2⟩ := HW.out.at' m hml
                rw [cutAt_f1 (by rw [HRL.out]; omega)] at x1
                rw [Int.toNat_natCast] at HCI
                by_cases h2 : (thAt r m).f1 = 2
                · have hcut : cutI r (m : Int) = -1 := by
                    rcases HCI.out with ⟨e, _⟩ | ⟨_, e⟩
                    · exact e
                    · exact absurd ⟨by omega, h2⟩ e
                  rw [hcut] at HNX
                  rw [h2] at x1
                  obtain ⟨A3, c3, w0, w1, w2, hp3⟩ := HW.out.at' i hli
                  rw [HPE.out] at hp3
                  injection hp3 with hp3
                  injection hp3 with e5 e6 e7
                  rw [← e5, ← e6, ← e7] at w0
                  have hz3 : wr.frozen? ⟨pb, j, none⟩ = false := by
                    have hr := HW.out.pl i hli
                    have h_ := HPE.out
                    rw [List.getElem?_eq_getElem (by have := HW.out.len; omega)] at h_
                    unfold placeRow at hr
                    rw [Option.some.inj h_, ← thAt_eq hli, hf0, rowAt_len] at hr
                    exact World.ownsRow.frozenAt hr j
                  have HPUT : Aside0 (GS (wr.setCell ⟨pb, j, none⟩ (.int .i64 (-1))) ok g nur mb cn rm1 (.slice (some ⟨q, 0, none⟩) l.length cV) ps1 (cutAt r i (j + 1))) := ⟨by
                    have h_ := HW.out.putL i hli HPE.out (by rw [hf0, rowAt_len]) j (-1)
                    rwa [HNX.out] at h_⟩
                  have HPOK : Aside0 (ok pb) := ⟨HW.out.pok _ (List.mem_of_getElem? HPE.out) pb rfl⟩
                  clear hC hli hf0 hj hjr h0 hm h2 hcut hml x0 x2 hp2 w1 w2 e5 e6 e7
                  go_wp2_with fail
                  go_roundg (fs.length - (j + 1))
                  case measure => have := HJQ.out; have := HJT.out; omega
                  case rel => exact ⟨j + 1, by first | rfl | rw [HJ64.out], ⟨by have := HJT.out; omega, rfl⟩, HPUT, ⟨HF.out.set (.inl HPOK.out) _⟩⟩
                · have hb2 : ((thAt r m).f1 == 2) = false := by simpa using h2
                  have hcut : cutI r (m : Int) = m := by
                    rcases HCI.out with ⟨_, _, e⟩ | ⟨e, _⟩
                    · exact absurd e h2
                    · exact e
                  have HG2 : Aside0 (GS wr ok g nur mb cn rm1 (.slice (some ⟨q, 0, none⟩) l.length cV) ps1 (cutAt r i (j + 1))) := ⟨by rw [HSM.out hcut]; exact HW.out⟩
                  generalize (thAt r m).f1 = z1 at x1 hb2
                  clear hC hli hf0 hj hjr h0 hm h2 hcut hml x0 x2 hp2
                  go_wp2_with fail
                  go_roundg (fs.length - (j + 1))
                  case measure => have := HJQ.out; have := HJT.out; omega
                  case rel => exact ⟨j + 1, by first | rfl | rw [HJ64.out], ⟨by have := HJT.out; omega, rfl⟩, HG2, HF⟩
              · have hd0 : decide (0 ≤ fs[j]) = false := decide_eq_false h0
                have hcut : cutI r fs[j] = fs[j] := by
                  rcases HCI.out with ⟨_, e, _⟩ | ⟨e, _⟩
                  · exact absurd e h0
                  · exact e
                have HG2 : Aside0 (GS wr ok g nur mb cn rm1 (.slice (some ⟨q, 0, none⟩) l.length cV) ps1 (cutAt r i (j + 1))) := ⟨by rw [HSM.out hcut]; exact HW.out⟩
                clear HNX HSM HCI
                generalize fs[j] = k at hx hd0
                clear hC hli hf0 hj hjr h0 hcut hkl
                go_wp2_with fail
                go_roundg (fs.length - (j + 1))
                case measure => have := HJQ.out; have := HJT.out; omega
                case rel => exact ⟨j + 1, by first | rfl | rw [HJ64.out], ⟨by have := HJT.out; omega, rfl⟩, HG2, HF⟩
            · have e_ : j = fs.length := by have := HJQ.out; omega
              subst e_
              have hjdec : decide ((fs.length : Int) < (fs.length : Int)) = false := decide_eq_false (by omega)
              have hjdec2 : decide (fs.length < fs.length) = false := decide_eq_false hj
              have HG2 : Aside0 (GS wr ok g nur mb cn rm1 (.slice (some ⟨q, 0, none⟩) l.length cV) ps1 (mapAt (p2 r) r (i + 1))) := ⟨by rw [← HCA.out]; exact HW.out⟩
              clear hj HJQ HW
              go_wp2
              go_roundg (l.length - (i + 1))
              case measure => have := HIQ.out; have := HLT.out; omega
              case rel => exact ⟨i + 1, by first | rfl | rw [HW64.out], ⟨by have := HLT.out; omega, rfl⟩, HG2, HF⟩
        · have e_ : i = l.length := by have := HIQ.out; omega
          subst e_
          have hdec : decide ((l.length : Int) < (l.length : Int)) = false := decide_eq_false (by omega)
          have hdec2 : decide (l.length < l.length) = false := decide_eq_false hlt
          have c2 := HW.out.c2
          clear hlt HIQ
          go_wp2_with (first | ((with_reducible refine gate_builtin (b := .clear) (xs := #[.tmp 103]) rfl ?_); refine clear_set rfl _ rfl hmt HW.out.set rfl ?_; intro w5 hs5 hg5))
          go_ret
          rw [HCN.out, HCL.out]
          exact ⟨rfl, ⟨_, HW.out.turned hg5 hs5⟩, HF.out.grown hg5 (fun k hk => .inl (by injection hk with hk; subst hk; exact HW.out.mok))⟩
end Go.Proofs.Ytnimidkeoocchaa.Gen
/- Package gens: major walked. -/
namespace Go.Proofs.Ytnimidkeoocchaa.Gen
open Go.RowKit Go.Proofs.YtnimidkeoocchaaW.PrintWords Go.Proofs.YtnimidkeoocchaaW.PrintLast Go.Proofs.YtnimidkeoocchaaW.PrintMore Go.Proofs.Ytnimidkeoocchaa.PG Go.Proofs.Ytnimidkeoocchaa.Hnd Go.Proofs.Ytnimidkeoocchaa.Rch

def majorN (l : List Th) : Nat := collN (needL l) [0, 1] l
def majorL (l : List Th) : List Th := collL (needL l) [0, 1] l
set_option maxHeartbeats 16000000 in
set_option maxRecDepth 100000 in
theorem major_calls (w : World) {ok : Nat → Prop} {g : Nat} {nur : Int} {mb cn : Nat} {rm : Int → Bool} {v : Value} {ps : List Value} {l : List Th} (h : GS w ok g nur mb cn rm v ps l) (ho : OkL l) (hok : ∀ k, ok k → k < w.heap.size) :
    Calls Try.prog 42 #[.pointer (some ⟨g, 0, none⟩)] w fun e w' => e = .returned (.int .i64 (majorN l : Int)) ∧ (∃ ps', GS w' ok g nur mb 0 (fun _ => false) v ps' (majorL l)) ∧ Fr ok w w' := by
  have HM := Aside0.mk h
  have HO := Aside0.mk ho
  have HK := Aside0.mk hok
  have HCALL := Aside0.mk (graph_calls w h ho)
  clear h ho hok
  go_enter Try.func42, Try.ntmps42
  go_wp2_with fail
  refine HCALL.out.mono ?_
  rintro e w2 ⟨vh, vr, rfl, hvh, hvr, hb2⟩
  obtain ⟨AH, cH, eH⟩ := Kd.R_slice hvh
  subst eH
  obtain ⟨AR, cR, eR⟩ := Kd.R_slice hvr
  subst eR
  obtain ⟨_, hcH, hCH⟩ := Kd.R_reads' hvh
  obtain ⟨_, hcR, hCR⟩ := Kd.R_reads' hvr
  have HB2 := Aside0.mk hb2
  have HCH := Aside0.mk hCH
  have HCR := Aside0.mk hCR
  have HCRc := Aside0.mk hcR
  have hbx := below_alloc (Below.refl w2.heap.size w2) (Obj.cells #[.slice AH (graphL l).length cH, .slice AR (heldL l).length cR] 38)
  have hbx2 := below_alloc hbx (Obj.cells #[.slice AH (graphL l).length cH, .slice AR (heldL l).length cR] 38)
  have hGin := graphL_in HO.out
  have hHin := heldL_in l
  have hGlen := graphL_len l
  have HGL := Aside0.mk (show needL l = fromL (graphL l) (heldL l) from rfl)
  generalize graphL l = gl at hGin hHin hGlen HGL hbx hbx2 HCH
  generalize heldL l = rl at hHin HGL hbx hbx2 HCR HCRc
  have HFROM := Aside0.mk (fun W (hb : Below w2.heap.size w2 W) => from_calls W AH cH gl AR rl.length cR AR cR rl (Kd.C_below HCH.out hb) (Kd.C_below HCR.out hb) HCRc.out hGin hHin (by rw [hGlen]; have := HO.out.len; omega))
  rw [← HGL.out] at HFROM
  have HBX : Aside0 (Below w2.heap.size w2 (w2.alloc (Obj.cells #[.slice AH gl.length cH, .slice AR rl.length cR] 38))) := ⟨hbx⟩
  clear hvh hvr hb2 hCH hCR hcH hcR hbx hbx2 hGin hHin hGlen
  go_wp2_with fail
  refine (HFROM.out _ HBX.out).mono ?_
  rintro e w3 ⟨v0, rfl, hv0, hb3⟩
  obtain ⟨AS, cS, eS⟩ := Kd.R_slice hv0
  subst eS
  have HB3 : Aside0 (Below w.heap.size w w3) := ⟨below_step (below_step HB2.out HBX.out) hb3⟩
  obtain ⟨W4, hW4⟩ : ∃ W4, W4 = w3.alloc (Obj.cells #[.int .i64 0, .int .i64 1] 3) := ⟨_, rfl⟩
  have hb4 : Below w3.heap.size w3 W4 := by rw [hW4]; exact below_alloc (Below.refl _ _) _
  have HB4 : Aside0 (Below w.heap.size w W4) := ⟨below_step HB3.out hb4⟩
  have HX4 : Aside0 (W4.heap[w3.heap.size]? = some (.cells #[.int .i64 0, .int .i64 1] 3 (0, 0))) := ⟨by rw [hW4]; exact blk_new _ _⟩
  have hRS := Kd.R_below hv0 hb4
  have hge : ∀ k, (Value.slice AS (needL l).length cS).ownBlock = some k → ¬ ok k := fun k hk ho => by
    have h1 := ((Kd.own_of_R hv0).lt k hk).1
    have h2 := HK.out k ho
    have h3 := (below_step HB2.out HBX.out).size
    omega
  have HCOL := Aside0.mk (collect_calls W4 (HM.out.below HB4.out) HO.out (needL l) AS cS (fun W hW => (Kd.R_reads' (R_flat rfl hRS (fun k hk => hW.blk k (Kd.R_lt hRS k hk) (hge k hk)))).2.2) (needL_len l) [0, 1] w3.heap.size 2 (fun W hW j hj => by
    have e := hW.obj HX4.out (fun ho => by have h1 := HK.out _ ho; have h2 := HB3.out.size; omega)
    rw [Nat.zero_add, blk_cell e j]
    rcases j with _ | _ | j
    · rfl
    · rfl
    · simp at hj; omega) (by simp))
  have HMN : Aside0 (majorN l = collN (needL l) [0, 1] l) := ⟨rfl⟩
  have HML : Aside0 (majorL l = collL (needL l) [0, 1] l) := ⟨rfl⟩
  have HNL := Aside0.mk (needL_len l)
  obtain ⟨sl, hsl⟩ : ∃ sl, sl = needL l := ⟨_, rfl⟩
  rw [← hsl] at HCOL HMN HML HNL hRS ⊢
  simp only [List.length_cons, List.length_nil, Nat.zero_add] at HCOL
  have HW4E := Aside0.mk hW4.symm
  generalize collL sl [0, 1] l = cl at HCOL HML
  generalize collN sl [0, 1] l = cm at HCOL HMN
  clear hb3 hb4 hv0 hRS hge hW4 hsl HFROM HGL
  go_wp2_with fail
  rw [HW4E.out]
  refine HCOL.out.mono ?_
  rintro e w5 ⟨rfl, ⟨ps', hg5⟩, hf5⟩
  go_wp2_with fail
  go_ret
  rw [HMN.out, HML.out]
  exact ⟨rfl, ⟨ps', hg5⟩, (Fr.of_below HB4.out).trans hf5⟩
end Go.Proofs.Ytnimidkeoocchaa.Gen
