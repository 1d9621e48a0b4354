/- Package mark: hold, make walked. -/
import Derived.Test.YtnimidkeoocchaaMarkNm
set_option linter.unusedVariables false
set_option linter.unusedSimpArgs false
namespace Go.Proofs.Ytnimidkeoocchaa.Mrk
open Go.RowKit Go.Proofs.YtnimidkeoocchaaW.PrintWords Go.Proofs.YtnimidkeoocchaaW.PrintLast Go.Proofs.YtnimidkeoocchaaW.PrintMore Go.Proofs.Ytnimidkeoocchaa.PK Go.Proofs.Ytnimidkeoocchaa.Hnd Go.Proofs.Ytnimidkeoocchaa.Rch

/-- What hold does, and what it answers. -/
def holdL (kind : Int) (mk : Bool) (l : List Th) (n : Int) (is : Bool) : List Th × Int :=
  if namedE l [n] = 0 then (if is = false ∧ (thAt l n.toNat).f2 = false then (l, 8) else (setH (if is = (kind == 1) then shadeL mk n l else l) n.toNat is, 0)) else (l, namedE l [n])
theorem C_one (W : World) (n : Int) : (Kd.int .i64).C (W.alloc (.cells #[.int .i64 n] 3)) (some ⟨W.heap.size, 0, none⟩) 1 [n] := C_block (d := Kd.int .i64) (blk_new W (.cells #[.int .i64 n] 3)) rfl
theorem namedE_in {l : List Th} {ns : List Int} (h : namedE l ns = 0) : ∀ n ∈ ns, 0 ≤ n ∧ n < (l.length : Int) := by
  intro n hn
  unfold namedE at h
  split at h
  · rename_i ha
    have := List.all_eq_true.1 ha n hn
    unfold inB at this; simpa using this
  · cases h
theorem namedE_need {l : List Th} {ns : List Int} (h : namedE l ns = 0) : ∀ n ∈ ns, (needL l).getD n.toNat false = true := by
  intro n hn
  unfold namedE at h
  split at h
  · split at h
    · rename_i hb
      exact List.all_eq_true.1 hb n hn
    · cases h
  · cases h
theorem shadeL_f2 (mk : Bool) (n : Int) (l : List Th) (i : Nat) : (thAt (shadeL mk n l) i).f2 = (thAt l i).f2 := by
  unfold shadeL
  split
  · unfold setC thAt
    simp only [List.getD_eq_getElem?_getD, List.getElem?_set]
    split
    · rename_i e
      subst e
      split
      · rename_i h; simp [List.getElem?_eq_getElem h]
      · rename_i h; simp [List.getElem?_eq_none (by omega : l.length ≤ n.toNat)]
    · rfl
  · rfl
theorem or_of {a b : Bool} (h : ¬ (a = false ∧ b = false)) : a = true ∨ b = true := by cases a <;> cases b <;> simp_all
set_option maxHeartbeats 16000000 in
set_option maxRecDepth 100000 in
theorem hold_calls (w : World) {ok : Nat → Prop} {g : Nat} {kind : Int} {mk : Bool} {v : Value} {ps : List Value} {l : List Th} (h : MS w ok g kind mk v ps l) (ho : OkL l) (n : Int) (is : Bool) :
    Calls Try.prog 49 #[.pointer (some ⟨g, 0, none⟩), .int .i64 n, .bool is] w fun e w' => e = .returned (.int .i64 (holdL kind mk l n is).2) ∧ MS w' ok g kind mk v ps (holdL kind mk l n is).1 ∧ Fr ok w w' := by
  have HM := Aside0.mk h
  have hbx := below_alloc (Below.refl w.heap.size w) (Obj.cells #[.int .i64 n] 3)
  have HBX := Aside0.mk hbx
  have HCALL := Aside0.mk (named_calls (w.alloc (Obj.cells #[.int .i64 n] 3)) (h.below hbx) ho (some ⟨w.heap.size, 0, none⟩) 1 [n] (C_one w n) (by simp) (by simp))
  simp only [List.length_cons, List.length_nil, Nat.zero_add] at HCALL
  clear h ho hbx
  by_cases he : namedE l [n] = 0
  · obtain ⟨h0, h1⟩ := namedE_in he n (by simp)
    obtain ⟨m, rfl⟩ : ∃ m : Nat, n = m := ⟨n.toNat, by omega⟩
    have hm : m < l.length := by omega
    have HML := Aside0.mk hm
    have HE0 := Aside0.mk he
    rw [he] at HCALL
    obtain ⟨q, cap, rfl⟩ := HM.out.vform (by omega)
    clear he
    by_cases hh : is = false ∧ (thAt l m).f2 = false
    · have HE : Aside0 (holdL kind mk l m is = (l, 8)) := ⟨by unfold holdL; rw [if_pos HE0.out, Int.toNat_natCast, if_pos hh]⟩
      obtain ⟨rfl, hf⟩ := hh
      go_enter Try.func49, Try.ntmps49
      go_wp2_with fail
      refine HCALL.out.mono ?_
      rintro e w1 ⟨rfl, hb⟩
      have HB1 := Aside0.mk (below_step HBX.out hb)
      have HM1 := Aside0.mk (HM.out.below HB1.out)
      obtain ⟨A, c, x0, x1, x2, hp⟩ := HM1.out.at' m HML.out
      rw [hf] at x2
      have c2 := HM1.out.c2
      clear hb x0 x1 hp hf
      go_wp2_with fail
      go_ret
      rw [HE.out]
      exact ⟨rfl, HM1.out, Fr.of_below HB1.out⟩
    · -- held is set
      cases hk : (is == (kind == 1)) with
      | true =>
        have hk' : is = (kind == 1) := by simpa using hk
        have HE : Aside0 (holdL kind mk l m is = (setH (shadeL mk m l) m is, 0)) := ⟨by unfold holdL; rw [if_pos HE0.out, Int.toNat_natCast, if_neg hh, if_pos hk']⟩
        have hx2 : (is = true ∨ (thAt l m).f2 = true) := or_of hh
        have HX := Aside0.mk hx2
        have HKB := Aside0.mk hk
        go_enter Try.func49, Try.ntmps49
        go_wp2_with fail
        refine HCALL.out.mono ?_
        rintro e w1 ⟨rfl, hb⟩
        have HB1 := Aside0.mk (below_step HBX.out hb)
        have HM1 := Aside0.mk (HM.out.below HB1.out)
        obtain ⟨A, c, x0, x1, x2, hp⟩ := HM1.out.at' m HML.out
        have c2 := HM1.out.c2
        have c0 := HM1.out.c0
        have hm1 : (m : Int) < (l.length : Int) := by omega
        have HSH := Aside0.mk (shade_calls w1 (m : Int) HM1.out hm1)
        have HLS := Aside0.mk (shadeL_len mk (m : Int) l)
        generalize shadeL mk (m : Int) l = l1 at HE HSH HLS
        generalize (thAt l m).f2 = fz at x2 HX hh
        have HFIN : ∀ (W : World) (K : Act → World → Prop), True := fun _ _ => trivial
        cases is with
        | true =>
          clear hb x0 x1 hp hh hk hk' hx2 HFIN
          have hkk : (kind == 1) = true := by simpa using HKB.out
          go_wp2_with fail
          refine HSH.out.mono ?_
          rintro e w2 ⟨rfl, hm2, hf2⟩
          have HM2 : Aside0 (MS w2 ok g kind mk (.slice (some ⟨q, 0, none⟩) l1.length cap) ps l1) := ⟨by rw [HLS.out]; exact hm2⟩
          have d2 := hm2.c2
          obtain ⟨A', c', y0, y1, y2, hp'⟩ := hm2.at' m (by rw [HLS.out]; exact HML.out)
          have z2 := HM2.out.vz (m * 3 + 2)
          have HF2 := Aside0.mk hf2
          clear hm2 hf2 y0 y1 hp' x2 c2 c0
          go_wp2_with fail
          go_ret
          rw [HE.out]
          have h_ := HM2.out.setH m (by rw [HLS.out]; exact HML.out) true
          rw [HLS.out] at h_
          exact ⟨rfl, h_, ((Fr.of_below HB1.out).trans HF2.out).set (.inl (HM.out.vok q rfl)) _⟩
        | false =>
          have hfz : fz = true := by simpa using HX.out
          subst hfz
          clear hb x0 x1 hp hh hk hk' hx2 HFIN
          have hkk : (kind == 1) = false := by simpa using HKB.out
          go_wp2_with fail
          refine HSH.out.mono ?_
          rintro e w2 ⟨rfl, hm2, hf2⟩
          have HM2 : Aside0 (MS w2 ok g kind mk (.slice (some ⟨q, 0, none⟩) l1.length cap) ps l1) := ⟨by rw [HLS.out]; exact hm2⟩
          have d2 := hm2.c2
          obtain ⟨A', c', y0, y1, y2, hp'⟩ := hm2.at' m (by rw [HLS.out]; exact HML.out)
          have z2 := HM2.out.vz (m * 3 + 2)
          have HF2 := Aside0.mk hf2
          clear hm2 hf2 y0 y1 hp' x2 c2 c0
          go_wp2_with fail
          go_ret
          rw [HE.out]
          have h_ := HM2.out.setH m (by rw [HLS.out]; exact HML.out) false
          rw [HLS.out] at h_
          exact ⟨rfl, h_, ((Fr.of_below HB1.out).trans HF2.out).set (.inl (HM.out.vok q rfl)) _⟩
      | false =>
        have hk' : ¬ is = (kind == 1) := by simpa using hk
        have HE : Aside0 (holdL kind mk l m is = (setH l m is, 0)) := ⟨by unfold holdL; rw [if_pos HE0.out, Int.toNat_natCast, if_neg hh, if_neg hk']⟩
        have hx2 : (is = true ∨ (thAt l m).f2 = true) := or_of hh
        have HX := Aside0.mk hx2
        have HKB := Aside0.mk hk
        go_enter Try.func49, Try.ntmps49
        go_wp2_with fail
        refine HCALL.out.mono ?_
        rintro e w1 ⟨rfl, hb⟩
        have HB1 := Aside0.mk (below_step HBX.out hb)
        have HM1 := Aside0.mk (HM.out.below HB1.out)
        obtain ⟨A, c, x0, x1, x2, hp⟩ := HM1.out.at' m HML.out
        have c2 := HM1.out.c2
        have c0 := HM1.out.c0
        have z2 := HM1.out.vz (m * 3 + 2)
        have hm1 : (m : Int) < (l.length : Int) := by omega
        generalize (thAt l m).f2 = fz at x2 HX hh
        cases is with
        | true =>
          clear hb x0 x1 hp hh hk hk' hx2
          have hkk : (kind == 1) = false := by simpa using HKB.out
          go_wp2_with fail
          go_ret
          rw [HE.out]
          exact ⟨rfl, HM1.out.setH m HML.out true, (Fr.of_below HB1.out).set (.inl (HM.out.vok q rfl)) _⟩
        | false =>
          have hfz : fz = true := by simpa using HX.out
          subst hfz
          clear hb x0 x1 hp hh hk hk' hx2
          have hkk : (kind == 1) = true := by simpa using HKB.out
          go_wp2_with fail
          go_ret
          rw [HE.out]
          exact ⟨rfl, HM1.out.setH m HML.out false, (Fr.of_below HB1.out).set (.inl (HM.out.vok q rfl)) _⟩
  · have HE : Aside0 (holdL kind mk l n is = (l, namedE l [n])) := ⟨by unfold holdL; rw [if_neg he]⟩
    have hbe : (namedE l [n] == 0) = false := by simpa using he
    generalize namedE l [n] = ee at HCALL HE hbe
    clear he
    go_enter Try.func49, Try.ntmps49
    go_wp2_with fail
    refine HCALL.out.mono ?_
    rintro e w1 ⟨rfl, hb⟩
    have HB1 := Aside0.mk (below_step HBX.out hb)
    clear hb
    go_wp2_with fail
    go_ret
    rw [HE.out]
    exact ⟨rfl, HM.out.below HB1.out, Fr.of_below HB1.out⟩
end Go.Proofs.Ytnimidkeoocchaa.Mrk
