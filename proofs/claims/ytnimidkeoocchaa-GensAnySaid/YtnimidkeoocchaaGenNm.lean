/- Package gens: named, set, hold, make walked. -/
import Derived.Test.YtnimidkeoocchaaGenSt
import Derived.Test.YtnimidkeoocchaaReach
import Derived.Test.YtnimidkeoocchaaHandMapR
set_option linter.unusedVariables false
set_option linter.unusedSimpArgs false
namespace Go.Proofs.Ytnimidkeoocchaa.Gen
open Go.RowKit Go.Proofs.YtnimidkeoocchaaW.PrintWords Go.Proofs.YtnimidkeoocchaaW.PrintLast Go.Proofs.YtnimidkeoocchaaW.PrintMore Go.Proofs.Ytnimidkeoocchaa.PG Go.Proofs.Ytnimidkeoocchaa.Hnd Go.Proofs.Ytnimidkeoocchaa.Rch

def inB (n : Nat) (k : Int) : Bool := decide (0 ≤ k) && decide (k < (n : Int))
/-- Which things are needed. -/
def needL (l : List Th) : List Bool := fromL (graphL l) (heldL l)
def namedE (l : List Th) (ns : List Int) : Int := if ns.all (inB l.length) = true then (if ns.all (fun n => (needL l).getD n.toNat false) = true then 0 else 8) else 5
theorem needL_len (l : List Th) : (needL l).length = l.length := by unfold needL; rw [fromL_length, graphL_len]
theorem graphL_in {l : List Th} (h : OkL l) : ∀ r ∈ graphL l, InR (graphL l).length r := by
  intro r hr
  obtain ⟨x, hx, rfl⟩ := List.mem_map.1 hr
  intro k hk
  rw [graphL_len]
  obtain ⟨h1, h2⟩ := List.mem_filter.1 hk
  have h3 := (h.pl x hx).2 k h1
  exact ⟨by unfold posI at h2; simpa using h2, h3⟩
theorem heldL_in (l : List Th) : InR (graphL l).length (heldL l) := by
  intro k hk
  unfold heldL heldTo at hk
  obtain ⟨n, hn, rfl⟩ := List.mem_map.1 hk
  have := (List.mem_filter.1 hn).1
  rw [List.mem_range] at this
  rw [graphL_len]
  exact ⟨by simp, by show ((n : Nat) : Int) < _; omega⟩
theorem all_take {α : Type} {p : α → Bool} {l : List α} {i : Nat} (h : i < l.length) : (l.take (i + 1)).all p = ((l.take i).all p && p l[i]) := by
  rw [List.take_succ_eq_append_getElem h, List.all_append]; simp
theorem all_not {α : Type} {p : α → Bool} {l : List α} {i : Nat} (h : i < l.length) (hp : p l[i] = false) : l.all p = false := by
  rw [Bool.eq_false_iff]
  intro ha
  have := List.all_eq_true.1 ha _ (List.getElem_mem h)
  rw [hp] at this; cases this
set_option maxHeartbeats 16000000 in
set_option maxRecDepth 100000 in
theorem named_calls (w : World) {ok : Nat → Prop} {g : Nat} {nur : Int} {mb cn : Nat} {rm : Int → Bool} {v : Value} {ps : List Value} {l : List Th} (h : GS w ok g nur mb cn rm v ps l) (ho : OkL l) (AN : Option Addr) (cN : Nat) (ns : List Int) (hN : (Kd.int .i64).C w AN ns.length ns) (hcN : ns.length ≤ cN) (hz : ns.length ≤ 1000) :
    Calls Try.prog 66 #[.pointer (some ⟨g, 0, none⟩), .slice AN ns.length cN] w fun e w' => e = .returned (.int .i64 (namedE l ns)) ∧ Below w.heap.size w w' := by
  have c1 := h.c1
  obtain ⟨AV, cV, ev, hcv⟩ := own_shape h.row
  subst ev
  have HM := Aside0.mk h
  have HO := Aside0.mk ho
  have HNC := Aside0.mk hN
  have HZ := Aside0.mk hz
  have HCALLG := Aside0.mk (fun W (hb : Below w.heap.size w W) => graph_calls W (h.below hb) ho)
  clear h ho hN hz
  go_enter Try.func66, Try.ntmps66
  go_wp2
  go_loopg [13] ns.length (fun kq v13 W => ∃ i : Nat, v13 = .int .i64 (i : Int) ∧ Aside0 (i ≤ ns.length ∧ kq = ns.length - i) ∧ Aside0 ((ns.take i).all (inB l.length) = true) ∧ Aside0 (Below w.heap.size w W))
  case atStart => exact ⟨0, rfl, ⟨Nat.zero_le _, by omega⟩, ⟨rfl⟩, ⟨by repeat (first | exact Below.refl _ _ | apply below_drew1)⟩⟩
  case round =>
    obtain ⟨i, rfl, HIQ, HA, HB⟩ := hrel
    by_cases hlt : i < ns.length
    · have hi0 : (0 : Int) ≤ (i : Int) := by omega
      have hi1 : (i : Int) < (ns.length : Int) := by omega
      obtain ⟨ad, e, hx⟩ := Kd.at_int (Kd.C_below HNC.out HB.out) (i : Int) (by omega) (by omega)
      rw [Int.toNat_natCast, rdI hlt] at hx
      subst e
      have hdec : decide ((i : Int) < (ns.length : Int)) = true := decide_eq_true hi1
      have hdec2 : decide (i < ns.length) = true := decide_eq_true hlt
      have HLT := Aside0.mk hlt
      have c1' : wr.cell? ⟨g, 1, none⟩ = some (.slice AV l.length cV) := pw_cell_below HB.out c1
      have HAT := Aside0.mk (all_take (p := inB l.length) hlt)
      have HAN := Aside0.mk (fun h_ => all_not (p := inB l.length) hlt h_)
      generalize ns[i] = y at hx HAT HAN
      have HW64 : Aside0 (wrap64 ((i : Int) + 1) = ((i + 1 : Nat) : Int)) := ⟨by have := HZ.out; unfold wrap64; omega⟩
      by_cases h0 : y < 0
      · have hd0 : decide (y < 0) = true := decide_eq_true h0
        have HE : Aside0 (namedE l ns = 5) := ⟨by unfold namedE; rw [HAN.out (by unfold inB; rw [decide_eq_false (by omega)]; rfl), if_neg (by decide)]⟩
        clear h0
        go_wp2_with fail
        go_ret
        rw [HE.out]
        exact ⟨rfl, HB.out⟩
      · have hd0 : decide (y < 0) = false := decide_eq_false h0
        by_cases h1 : (l.length : Int) ≤ y
        · have hd1 : decide ((l.length : Int) ≤ y) = true := decide_eq_true h1
          have HE : Aside0 (namedE l ns = 5) := ⟨by unfold namedE; rw [HAN.out (by unfold inB; rw [decide_eq_false (show ¬ y < (l.length : Int) by omega), Bool.and_false]), if_neg (by decide)]⟩
          clear h0 h1
          go_wp2_with fail
          go_ret
          rw [HE.out]
          exact ⟨rfl, HB.out⟩
        · have hd1 : decide ((l.length : Int) ≤ y) = false := decide_eq_false h1
          have HT : Aside0 ((ns.take (i + 1)).all (inB l.length) = true) := ⟨by rw [HAT.out, HA.out]; unfold inB; rw [decide_eq_true (show 0 ≤ y by omega), decide_eq_true (show y < (l.length : Int) by omega)]; rfl⟩
          clear h0 h1
          go_wp2_with fail
          go_roundg (ns.length - (i + 1))
          case measure => have := HIQ.out; have := HLT.out; omega
          case rel => exact ⟨i + 1, by first | rfl | rw [HW64.out], ⟨by have := HLT.out; omega, rfl⟩, HT, HB⟩
    · have e_ : i = ns.length := by have := HIQ.out; omega
      subst e_
      have hdec : decide ((ns.length : Int) < (ns.length : Int)) = false := decide_eq_false (by omega)
      have hdec2 : decide (ns.length < ns.length) = false := decide_eq_false hlt
      have HALL : Aside0 (ns.all (inB l.length) = true) := ⟨by have h_ := HA.out; rwa [List.take_length] at h_⟩
      clear hlt HIQ HA
      go_wp2_with fail
      refine (HCALLG.out wr HB.out).mono ?_
      rintro e w2 ⟨vh, vr, rfl, hvh, hvr, hb2⟩
      obtain ⟨AH, cH, eH⟩ := Kd.R_slice hvh
      subst eH
      obtain ⟨AR, cR, eR⟩ := Kd.R_slice hvr
      subst eR
      obtain ⟨_, hcH, hCH⟩ := Kd.R_reads' hvh
      obtain ⟨_, hcR, hCR⟩ := Kd.R_reads' hvr
      have HB2 : Aside0 (Below w.heap.size w w2) := ⟨below_step HB.out hb2⟩
      have HCH := Aside0.mk hCH
      have HCR := Aside0.mk hCR
      have HCRc := Aside0.mk hcR
      have hbx := below_alloc (Below.refl w2.heap.size w2) (Obj.cells #[.slice AH (graphL l).length cH, .slice AR (heldL l).length cR] 38)
      have hGin := graphL_in HO.out
      have hHin := heldL_in l
      have hGlen := graphL_len l
      have HGL := Aside0.mk (show needL l = fromL (graphL l) (heldL l) from rfl)
      generalize graphL l = gl at hGin hHin hGlen HGL hbx HCH
      generalize heldL l = rl at hHin HGL hbx HCR HCRc
      have HFROM := Aside0.mk (from_calls (w2.alloc (Obj.cells #[.slice AH gl.length cH, .slice AR rl.length cR] 38)) AH cH gl AR rl.length cR AR cR rl (Kd.C_below HCH.out hbx) (Kd.C_below HCR.out hbx) HCRc.out hGin hHin (by rw [hGlen]; have := HO.out.len; omega))
      have HBX : Aside0 (Below w.heap.size w (w2.alloc (Obj.cells #[.slice AH gl.length cH, .slice AR rl.length cR] 38))) := ⟨below_step HB2.out hbx⟩
      rw [← HGL.out] at HFROM
      clear hvh hvr hb2 hCH hCR hcH hcR hbx hGin hHin hGlen
      go_wp2_with fail
      refine HFROM.out.mono ?_
      rintro e w3 ⟨v0, rfl, hv0, hb3⟩
      obtain ⟨AS, cS, eS⟩ := Kd.R_slice hv0
      subst eS
      have HS := Aside0.mk (Kd.R_reads' hv0).2.2
      have HB3 : Aside0 (Below w.heap.size w w3) := ⟨below_step HBX.out hb3⟩
      have HLN := Aside0.mk (needL_len l)
      obtain ⟨sl, hsl⟩ : ∃ sl, sl = needL l := ⟨_, rfl⟩
      rw [← hsl] at HS HLN
      have HSL := Aside0.mk hsl
      have HEQ : Aside0 (namedE l ns = if ns.all (fun n => sl.getD n.toNat false) = true then 0 else 8) := ⟨by unfold namedE; rw [if_pos HALL.out, hsl]⟩
      clear hv0 hb3 hsl HFROM HGL
      go_wp2_with fail
      simp only [← HSL.out]
      go_loopg [37] ns.length (fun kq v37 W => ∃ i : Nat, v37 = .int .i64 (i : Int) ∧ Aside0 (i ≤ ns.length ∧ kq = ns.length - i) ∧ Aside0 ((ns.take i).all (fun n => sl.getD n.toNat false) = true) ∧ Aside0 (Below w3.heap.size w3 W))
      case atStart => exact ⟨0, rfl, ⟨Nat.zero_le _, by omega⟩, ⟨rfl⟩, ⟨Below.refl _ _⟩⟩
      case round =>
        obtain ⟨j, rfl, HJQ, HJ, HBJ⟩ := hrel
        by_cases hlt : j < ns.length
        · have hj0 : (0 : Int) ≤ (j : Int) := by omega
          have hj1 : (j : Int) < (ns.length : Int) := by omega
          obtain ⟨ad, e, hx⟩ := Kd.at_int (Kd.C_below HNC.out (HB3.out.trans (below_cut HBJ.out HB3.out.size))) (j : Int) (by omega) (by omega)
          rw [Int.toNat_natCast, rdI hlt] at hx
          subst e
          have hdec : decide ((j : Int) < (ns.length : Int)) = true := decide_eq_true hj1
          have hdec2 : decide (j < ns.length) = true := decide_eq_true hlt
          have HLT := Aside0.mk hlt
          have HIB := Aside0.mk (List.all_eq_true.1 HALL.out _ (List.getElem_mem hlt))
          have HAT := Aside0.mk (all_take (p := fun n => sl.getD n.toNat false) hlt)
          have HAN := Aside0.mk (fun h_ => all_not (p := fun n => sl.getD n.toNat false) hlt h_)
          generalize ns[j] = y at hx HAT HAN HIB
          have hy : 0 ≤ y ∧ y < (l.length : Int) := by have h_ := HIB.out; unfold inB at h_; simpa using h_
          have hy0 : (0 : Int) ≤ y := hy.1
          have hy1 : y < (sl.length : Int) := by rw [HLN.out]; exact hy.2
          obtain ⟨bd, e, hb⟩ := Kd.at_bool (Kd.C_below HS.out HBJ.out) y hy0 hy1
          subst e
          have hrd : rdOf false sl y = sl.getD y.toNat false := rfl
          rw [hrd] at hb
          have HW64 : Aside0 (wrap64 ((j : Int) + 1) = ((j + 1 : Nat) : Int)) := ⟨by have := HZ.out; unfold wrap64; omega⟩
          cases hq : sl.getD y.toNat false with
          | false =>
            rw [hq] at hb
            have HE : Aside0 (namedE l ns = 8) := ⟨by rw [HEQ.out, HAN.out hq, if_neg (by decide)]⟩
            clear hq hy hrd
            go_wp2_with fail
            go_ret
            rw [HE.out]
            exact ⟨rfl, HB3.out.trans (below_cut HBJ.out HB3.out.size)⟩
          | true =>
            rw [hq] at hb
            have HT : Aside0 ((ns.take (j + 1)).all (fun n => sl.getD n.toNat false) = true) := ⟨by rw [HAT.out, HJ.out, hq]; rfl⟩
            clear hq hy hrd
            go_wp2_with fail
            go_roundg (ns.length - (j + 1))
            case measure => have := HJQ.out; have := HLT.out; omega
            case rel => exact ⟨j + 1, by first | rfl | rw [HW64.out], ⟨by have := HLT.out; omega, rfl⟩, HT, HBJ⟩
        · have e_ : j = ns.length := by have := HJQ.out; omega
          subst e_
          have hdec : decide ((ns.length : Int) < (ns.length : Int)) = false := decide_eq_false (by omega)
          have hdec2 : decide (ns.length < ns.length) = false := decide_eq_false hlt
          have HE : Aside0 (namedE l ns = 0) := ⟨by have h_ := HJ.out; rw [List.take_length] at h_; rw [HEQ.out, if_pos h_]⟩
          clear hlt HJQ HJ
          go_wp2_with fail
          go_ret
          rw [HE.out]
          exact ⟨rfl, HB3.out.trans (below_cut HBJ.out HB3.out.size)⟩
end Go.Proofs.Ytnimidkeoocchaa.Gen
/- Package gens: hold walked. -/
namespace Go.Proofs.Ytnimidkeoocchaa.Gen
open Go.RowKit Go.Proofs.YtnimidkeoocchaaW.PrintWords Go.Proofs.YtnimidkeoocchaaW.PrintLast Go.Proofs.YtnimidkeoocchaaW.PrintMore Go.Proofs.Ytnimidkeoocchaa.PG Go.Proofs.Ytnimidkeoocchaa.Hnd Go.Proofs.Ytnimidkeoocchaa.Rch

theorem GS.at' {W : World} {ok : Nat → Prop} {g : Nat} {nur : Int} {mb cn : Nat} {rm : Int → Bool} {ps : List Value} {l : List Th} {q n cap : Nat} (h : GS W ok g nur mb cn rm (.slice (some ⟨q, 0, none⟩) n cap) ps l) (i : Nat) (hi : i < l.length) :
    ∃ A c, W.cell? ⟨q, i * 3, none⟩ = some (.slice A (thAt l i).f0.length c) ∧ W.cell? ⟨q, i * 3 + 1, none⟩ = some (.int .i64 (thAt l i).f1) ∧ W.cell? ⟨q, i * 3 + 2, none⟩ = some (.bool (thAt l i).f2) ∧ ps[i]? = some (.slice A (thAt l i).f0.length c) := by
  obtain ⟨q', cap', A, c, e1, hqo, y0, y1, y2, hpe, hpc, hpC⟩ := h.at_ i hi
  injection e1 with e1 e2 e3
  injection e1 with e1
  injection e1 with e1
  subst e1
  rw [thAt_eq hi]
  exact ⟨A, c, y0, y1, y2, by rw [List.getElem?_eq_getElem (by have := h.len; omega), hpe]⟩
theorem GS.atC {W : World} {ok : Nat → Prop} {g : Nat} {nur : Int} {mb cn : Nat} {rm : Int → Bool} {v : Value} {ps : List Value} {l : List Th} (h : GS W ok g nur mb cn rm v ps l) {i : Nat} (hi : i < l.length) {A : Option Addr} {c n : Nat} {fs : List Int} (hp : ps[i]? = some (.slice A n c)) (hf : (thAt l i).f0 = fs) : (Kd.int .i64).C W A fs.length fs := by
  obtain ⟨A', c', e, hc, hC⟩ := h.placesC i hi
  rw [List.getElem?_eq_getElem (by have := h.len; omega), e] at hp
  injection hp with hp
  injection hp with h1 h2 h3
  subst h1
  rw [← hf, thAt_eq hi]
  exact hC
/-- What hold does, and what it answers. -/
def holdL (l : List Th) (n : Int) (is : Bool) : List Th × Int :=
  if namedE l [n] = 0 then (if is = false ∧ (thAt l n.toNat).f2 = false then (l, 8) else (setH l n.toNat is, 0)) else (l, namedE l [n])
theorem C_one (W : World) (n : Int) : (Kd.int .i64).C (W.alloc (.cells #[.int .i64 n] 3)) (some ⟨W.heap.size, 0, none⟩) 1 [n] := C_block (d := Kd.int .i64) (blk_new W (.cells #[.int .i64 n] 3)) rfl
theorem namedE_in {l : List Th} {ns : List Int} (h : namedE l ns = 0) : ∀ n ∈ ns, 0 ≤ n ∧ n < (l.length : Int) := by
  intro n hn
  unfold namedE at h
  split at h
  · rename_i ha
    have := List.all_eq_true.1 ha n hn
    unfold inB at this; simpa using this
  · cases h
theorem namedE_need {l : List Th} {ns : List Int} (h : namedE l ns = 0) : ∀ n ∈ ns, (needL l).getD n.toNat false = true := by
  intro n hn
  unfold namedE at h
  split at h
  · split at h
    · rename_i hb
      exact List.all_eq_true.1 hb n hn
    · cases h
  · cases h
theorem or_of {a b : Bool} (h : ¬ (a = false ∧ b = false)) : a = true ∨ b = true := by cases a <;> cases b <;> simp_all
set_option maxHeartbeats 16000000 in
set_option maxRecDepth 100000 in
theorem hold_calls (w : World) {ok : Nat → Prop} {g : Nat} {nur : Int} {mb cn : Nat} {rm : Int → Bool} {v : Value} {ps : List Value} {l : List Th} (h : GS w ok g nur mb cn rm v ps l) (ho : OkL l) (n : Int) (is : Bool) :
    Calls Try.prog 40 #[.pointer (some ⟨g, 0, none⟩), .int .i64 n, .bool is] w fun e w' => e = .returned (.int .i64 (holdL l n is).2) ∧ GS w' ok g nur mb cn rm v ps (holdL l n is).1 ∧ Fr ok w w' := by
  have HM := Aside0.mk h
  have hbx := below_alloc (Below.refl w.heap.size w) (Obj.cells #[.int .i64 n] 3)
  have HBX := Aside0.mk hbx
  have HCALL := Aside0.mk (named_calls (w.alloc (Obj.cells #[.int .i64 n] 3)) (h.below hbx) ho (some ⟨w.heap.size, 0, none⟩) 1 [n] (C_one w n) (by simp) (by simp))
  simp only [List.length_cons, List.length_nil, Nat.zero_add] at HCALL
  clear h ho hbx
  by_cases he : namedE l [n] = 0
  · obtain ⟨h0, h1⟩ := namedE_in he n (by simp)
    obtain ⟨m, rfl⟩ : ∃ m : Nat, n = m := ⟨n.toNat, by omega⟩
    have hm : m < l.length := by omega
    have HML := Aside0.mk hm
    have HE0 := Aside0.mk he
    rw [he] at HCALL
    obtain ⟨q, cap, rfl⟩ := HM.out.vform (by omega)
    clear he
    by_cases hh : is = false ∧ (thAt l m).f2 = false
    · have HE : Aside0 (holdL l m is = (l, 8)) := ⟨by unfold holdL; rw [if_pos HE0.out, Int.toNat_natCast, if_pos hh]⟩
      obtain ⟨rfl, hf⟩ := hh
      go_enter Try.func40, Try.ntmps40
      go_wp2_with fail
      refine HCALL.out.mono ?_
      rintro e w1 ⟨rfl, hb⟩
      have HB1 := Aside0.mk (below_step HBX.out hb)
      have HM1 := Aside0.mk (HM.out.below HB1.out)
      obtain ⟨A, c, x0, x1, x2, hp⟩ := HM1.out.at' m HML.out
      rw [hf] at x2
      have c1 := HM1.out.c1
      clear hb x0 x1 hp hf
      go_wp2_with fail
      go_ret
      rw [HE.out]
      exact ⟨rfl, HM1.out, Fr.of_below HB1.out⟩
    · have HE : Aside0 (holdL l m is = (setH l m is, 0)) := ⟨by unfold holdL; rw [if_pos HE0.out, Int.toNat_natCast, if_neg hh]⟩
      have hx2 : (is = true ∨ (thAt l m).f2 = true) := or_of hh
      have HX := Aside0.mk hx2
      go_enter Try.func40, Try.ntmps40
      go_wp2_with fail
      refine HCALL.out.mono ?_
      rintro e w1 ⟨rfl, hb⟩
      have HB1 := Aside0.mk (below_step HBX.out hb)
      have HM1 := Aside0.mk (HM.out.below HB1.out)
      obtain ⟨A, c, x0, x1, x2, hp⟩ := HM1.out.at' m HML.out
      have c1 := HM1.out.c1
      have z2 := HM1.out.vz (m * 3 + 2)
      have hm1 : (m : Int) < (l.length : Int) := by omega
      generalize (thAt l m).f2 = fz at x2 HX hh hx2
      cases is with
      | true =>
        clear hb x0 x1 hp hh hx2
        go_wp2_with fail
        go_ret
        rw [HE.out]
        exact ⟨rfl, HM1.out.setH m HML.out true, (Fr.of_below HB1.out).set (.inl (HM.out.vok q rfl)) _⟩
      | false =>
        have hfz : fz = true := by simpa using HX.out
        subst hfz
        clear hb x0 x1 hp hh hx2
        go_wp2_with fail
        go_ret
        rw [HE.out]
        exact ⟨rfl, HM1.out.setH m HML.out false, (Fr.of_below HB1.out).set (.inl (HM.out.vok q rfl)) _⟩
  · have HE : Aside0 (holdL l n is = (l, namedE l [n])) := ⟨by unfold holdL; rw [if_neg he]⟩
    have hbe : (namedE l [n] == 0) = false := by simpa using he
    generalize namedE l [n] = ee at HCALL HE hbe
    clear he
    go_enter Try.func40, Try.ntmps40
    go_wp2_with fail
    refine HCALL.out.mono ?_
    rintro e w1 ⟨rfl, hb⟩
    have HB1 := Aside0.mk (below_step HBX.out hb)
    clear hb
    go_wp2_with fail
    go_ret
    rw [HE.out]
    exact ⟨rfl, HM.out.below HB1.out, Fr.of_below HB1.out⟩
end Go.Proofs.Ytnimidkeoocchaa.Gen
/- Package gens: what a collection does, in plain words; a thing that goes, a place that is set. -/
namespace Go.Proofs.Ytnimidkeoocchaa.Gen
open Go.RowKit Go.Proofs.YtnimidkeoocchaaW.PrintWords Go.Proofs.YtnimidkeoocchaaW.PrintLast Go.Proofs.YtnimidkeoocchaaW.PrintMore Go.Proofs.Ytnimidkeoocchaa.PG Go.Proofs.Ytnimidkeoocchaa.Hnd

theorem Sep.none_ {ps : List Value} (h : Sep ps) (i : Nat) : Sep (ps.set i (.slice none 0 0)) := by
  intro a b ha hb hne k hk
  have ha' : a < ps.length := by simpa using ha
  have hb' : b < ps.length := by simpa using hb
  rw [List.getElem_set] at hk
  rw [List.getElem_set]
  split at hk
  · simp [Value.ownBlock] at hk
  · split
    · simp [Value.ownBlock]
    · exact h a b ha' hb' hne k hk
theorem GS.gone {W : World} {ok : Nat → Prop} {g : Nat} {nur : Int} {mb cn : Nat} {rm : Int → Bool} {ps : List Value} {l : List Th} {q cap : Nat} (h : GS W ok g nur mb cn rm (.slice (some ⟨q, 0, none⟩) l.length cap) ps l) (i : Nat) (hi : i < l.length) (c : Int) (b : Bool) :
    GS (((W.setCell ⟨q, i * 3, none⟩ (.slice none 0 0)).setCell ⟨q, i * 3 + 1, none⟩ (.int .i64 c)).setCell ⟨q, i * 3 + 2, none⟩ (.bool b)) ok g nur mb cn rm (.slice (some ⟨q, 0, none⟩) l.length cap) (ps.set i (.slice none 0 0)) (l.set i ⟨[], c, b⟩) := by
  obtain ⟨r1, g1⟩ := World.ownsRow.stored h.row (i * 3) (.slice none 0 0)
  obtain ⟨r2, g2⟩ := World.ownsRow.stored r1 (i * 3 + 1) (.int .i64 c)
  obtain ⟨r3, g3⟩ := World.ownsRow.stored r2 (i * 3 + 2) (.bool b)
  rw [cellsT_set3 ps l i (.slice none 0 0) ⟨[], c, b⟩ h.len hi] at r3
  have hblk : ∀ k, k < W.heap.size → some k ≠ some q → (((W.setCell ⟨q, i * 3, none⟩ (.slice none 0 0)).setCell ⟨q, i * 3 + 1, none⟩ (.int .i64 c)).setCell ⟨q, i * 3 + 2, none⟩ (.bool b)).heap[k]? = W.heap[k]? := by
    intro k hk hne
    exact ((g3.block k (Nat.lt_of_lt_of_le hk (Nat.le_trans g1.size g2.size)) hne).trans (g2.block k (Nat.lt_of_lt_of_le hk g1.size) hne)).trans (g1.block k hk hne)
  refine ⟨h.gok, (hblk g (blk_lt h.obj) (fun e => h.v_g q rfl (Option.some.inj e).symm)).trans h.obj, by rw [List.length_set]; exact r3, by simp [h.len], fun j hj => ?_, h.vok, fun p hp k hk => ?_, h.sep.none_ i, h.mok, ?_⟩
  · have hj' : j < l.length := by simpa using hj
    by_cases e : i = j
    · subst e
      rw [List.getElem_set_self, List.getElem_set_self]
      exact World.ownsRow_nil _ _ _ _
    · rw [List.getElem_set_ne e, List.getElem_set_ne e]
      have hp := h.pl j hj'
      exact own_same hp (fun k hk => hblk k (hp.lt k hk).2 (fun e2 => (h.p_g j hj' k hk).2 (by rw [e2]; rfl)))
  · rcases List.mem_or_eq_of_mem_set hp with h1 | h1
    · exact h.pok p h1 k hk
    · subst h1; simp [Value.ownBlock] at hk
  · exact set_same h.set (hblk mb h.set.lt (fun e => h.mb_v q rfl (Option.some.inj e)))
/-! ### One by one -/
def mapAt (F : Nat → Th → Th) (l : List Th) (i : Nat) : List Th := (List.range l.length).map (fun n => if n < i then F n (thAt l n) else thAt l n)
theorem mapAt_len (F : Nat → Th → Th) (l : List Th) (i : Nat) : (mapAt F l i).length = l.length := by simp [mapAt]
theorem mapAt_at {F : Nat → Th → Th} {l : List Th} {i n : Nat} (hn : n < l.length) : thAt (mapAt F l i) n = if n < i then F n (thAt l n) else thAt l n := by
  rw [thAt_eq (by rw [mapAt_len]; exact hn)]
  simp [mapAt]
theorem th_ext {a b : List Th} (h : a.length = b.length) (he : ∀ n, n < a.length → thAt a n = thAt b n) : a = b := by
  apply List.ext_getElem h
  intro n h1 h2
  have := he n h1
  rwa [thAt_eq h1, thAt_eq h2] at this
theorem mapAt_zero (F : Nat → Th → Th) (l : List Th) : mapAt F l 0 = l := th_ext (mapAt_len _ _ _) (fun n hn => by rw [mapAt_at (by rwa [mapAt_len] at hn), if_neg (Nat.not_lt_zero _)])
theorem thAt_set {l : List Th} {i n : Nat} {x : Th} (hn : n < l.length) : thAt (l.set i x) n = if i = n then x else thAt l n := by
  rw [thAt_eq (by rw [List.length_set]; exact hn), List.getElem_set, thAt_eq hn]
theorem mapAt_next {F : Nat → Th → Th} {l : List Th} {i : Nat} (hi : i < l.length) : (mapAt F l i).set i (F i (thAt l i)) = mapAt F l (i + 1) := by
  apply th_ext (by simp [mapAt_len])
  intro n hn
  have hn' : n < l.length := by simpa [mapAt_len] using hn
  rw [thAt_set (by rw [mapAt_len]; exact hn'), mapAt_at hn', mapAt_at hn']
  by_cases h1 : i = n
  · subst h1; rw [if_pos rfl, if_pos (by omega)]
  · rw [if_neg h1]
    by_cases h2 : n < i
    · rw [if_pos h2, if_pos (by omega)]
    · rw [if_neg h2, if_neg (by omega)]
/-! ### A collection -/
def goes (st : List Bool) (ages : List Int) (n : Nat) (x : Th) : Bool := ages.contains x.f1 && !st.getD n false
def p1 (st : List Bool) (ages : List Int) (n : Nat) (x : Th) : Th := if ages.contains x.f1 = true then (if st.getD n false = true then ⟨x.f0, 1, x.f2⟩ else ⟨[], 2, false⟩) else x
def goneN (st : List Bool) (ages : List Int) (l : List Th) (i : Nat) : Nat := (List.range i).countP (fun n => goes st ages n (thAt l n))
theorem goneN_next (st : List Bool) (ages : List Int) (l : List Th) (i : Nat) : goneN st ages l (i + 1) = goneN st ages l i + (if goes st ages i (thAt l i) = true then 1 else 0) := by
  unfold goneN
  rw [List.range_succ, List.countP_append]
  simp [List.countP_cons]
theorem goneN_le (st : List Bool) (ages : List Int) (l : List Th) (i : Nat) : goneN st ages l i ≤ i := by
  unfold goneN
  exact Nat.le_trans List.countP_le_length (by simp)
def cutI (l : List Th) (k : Int) : Int := if 0 ≤ k ∧ (thAt l k.toNat).f1 = 2 then -1 else k
def p2 (l : List Th) (_ : Nat) (x : Th) : Th := ⟨x.f0.map (cutI l), x.f1, x.f2⟩
def goneL (st : List Bool) (ages : List Int) (l : List Th) : List Th := mapAt (p1 st ages) l l.length
def collL (st : List Bool) (ages : List Int) (l : List Th) : List Th := mapAt (p2 (goneL st ages l)) (goneL st ages l) (goneL st ages l).length
def collN (st : List Bool) (ages : List Int) (l : List Th) : Nat := goneN st ages l l.length
def rowAt (l : List Th) (fs : List Int) (j : Nat) : List Int := (fs.take j).map (cutI l) ++ fs.drop j
theorem rowAt_len (l : List Th) (fs : List Int) (j : Nat) : (rowAt l fs j).length = fs.length := by simp [rowAt]; omega
theorem rowAt_zero (l : List Th) (fs : List Int) : rowAt l fs 0 = fs := by simp [rowAt]
theorem rowAt_all (l : List Th) (fs : List Int) : rowAt l fs fs.length = fs.map (cutI l) := by simp [rowAt]
theorem rowAt_get (l : List Th) {fs : List Int} {j : Nat} (hj : j < fs.length) : (rowAt l fs j)[j]'(by rw [rowAt_len]; exact hj) = fs[j] := by
  unfold rowAt
  rw [List.getElem_append_right (by simp; omega)]
  simp [Nat.min_eq_left (Nat.le_of_lt hj)]
theorem rowAt_next (l : List Th) {fs : List Int} {j : Nat} (hj : j < fs.length) : (rowAt l fs j).set j (cutI l fs[j]) = rowAt l fs (j + 1) := by
  unfold rowAt
  rw [List.set_append_right _ _ (by simp; omega), List.take_succ_eq_append_getElem hj, List.map_append, List.append_assoc]
  congr 1
  rw [List.drop_eq_getElem_cons hj]
  simp [Nat.min_eq_left (Nat.le_of_lt hj)]
  rw [List.drop_eq_getElem_cons hj]; rfl
theorem rowAt_same (l : List Th) {fs : List Int} {j : Nat} (hj : j < fs.length) (h : cutI l fs[j] = fs[j]) : rowAt l fs (j + 1) = rowAt l fs j := by
  rw [← rowAt_next l hj, h, ← rowAt_get l hj]
  exact List.set_getElem_self _
/-- Behind i things all of whose places were gone through, and j places of the next one. -/
def cutAt (l : List Th) (i j : Nat) : List Th := (mapAt (p2 l) l i).set i ⟨rowAt l (thAt l i).f0 j, (thAt l i).f1, (thAt l i).f2⟩
theorem cutAt_len (l : List Th) (i j : Nat) : (cutAt l i j).length = l.length := by simp [cutAt, mapAt_len]
theorem cutAt_zero {l : List Th} {i : Nat} (hi : i < l.length) : cutAt l i 0 = mapAt (p2 l) l i := by
  apply th_ext (by simp [cutAt])
  intro n hn
  have hn' : n < l.length := by rwa [cutAt_len] at hn
  unfold cutAt
  rw [thAt_set (by rw [mapAt_len]; exact hn'), rowAt_zero]
  split
  · rename_i e; subst e; rw [mapAt_at hi, if_neg (Nat.lt_irrefl _)]
  · rfl
theorem cutAt_all {l : List Th} {i : Nat} (hi : i < l.length) : cutAt l i (thAt l i).f0.length = mapAt (p2 l) l (i + 1) := by
  rw [← mapAt_next hi]
  unfold cutAt p2
  rw [rowAt_all]
theorem cutAt_f1 {l : List Th} {i j n : Nat} (hn : n < l.length) : (thAt (cutAt l i j) n).f1 = (thAt l n).f1 := by
  unfold cutAt
  rw [thAt_set (by rw [mapAt_len]; exact hn)]
  split
  · rename_i e; subst e; rfl
  · rw [mapAt_at hn]; split <;> rfl
theorem cutAt_f0 {l : List Th} {i j : Nat} (hi : i < l.length) : (thAt (cutAt l i j) i).f0 = rowAt l (thAt l i).f0 j := by
  unfold cutAt
  rw [thAt_set (by rw [mapAt_len]; exact hi), if_pos rfl]
def putL (l : List Th) (i j : Nat) (x : Int) : List Th := l.set i ⟨(thAt l i).f0.set j x, (thAt l i).f1, (thAt l i).f2⟩
theorem cutAt_next {l : List Th} {i j : Nat} (hi : i < l.length) (hj : j < (thAt l i).f0.length) : putL (cutAt l i j) i j (cutI l (thAt l i).f0[j]) = cutAt l i (j + 1) := by
  unfold putL
  rw [cutAt_f0 hi, rowAt_next l hj]
  unfold cutAt
  rw [thAt_set (by rw [mapAt_len]; exact hi), if_pos rfl, List.set_set]
theorem cutAt_same {l : List Th} {i j : Nat} (hj : j < (thAt l i).f0.length) (h : cutI l (thAt l i).f0[j] = (thAt l i).f0[j]) : cutAt l i (j + 1) = cutAt l i j := by
  unfold cutAt
  rw [rowAt_same l hj h]
theorem GS.putL {W : World} {ok : Nat → Prop} {g : Nat} {nur : Int} {mb cn : Nat} {rm : Int → Bool} {v : Value} {ps : List Value} {l : List Th} (h : GS W ok g nur mb cn rm v ps l) (i : Nat) (hi : i < l.length) {b cap n : Nat} (hp : ps[i]? = some (.slice (some ⟨b, 0, none⟩) n cap)) (hn : n = (thAt l i).f0.length) (j : Nat) (x : Int) :
    GS (W.setCell ⟨b, j, none⟩ (.int .i64 x)) ok g nur mb cn rm v ps (Gen.putL l i j x) := by
  unfold Gen.putL
  rw [thAt_eq hi] at hn ⊢
  refine h.put i hi (b := b) (cap := cap) ?_ j x
  rw [List.getElem?_eq_getElem (by have := h.len; omega)] at hp
  rw [Option.some.inj hp, hn]
theorem placeForm {W : World} {p : Value} {f : List Int} (h : placeRow W p f) {A : Option Addr} {n c : Nat} (e : p = .slice A n c) (hn : 0 < f.length) : ∃ b, A = some ⟨b, 0, none⟩ ∧ W.heap[b]?.isSome = true := by
  obtain ⟨b, cap, e2⟩ := own_nth h hn
  rw [e] at e2
  injection e2 with e3 _ _
  refine ⟨b, e3, ?_⟩
  have := (World.ownsRow.lt h b (by rw [e, e3]; rfl)).2
  simp [this]
end Go.Proofs.Ytnimidkeoocchaa.Gen
