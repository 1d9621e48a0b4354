/- Package mark: named, set, hold, make walked. -/
import Derived.Test.YtnimidkeoocchaaMarkGf
import Derived.Test.YtnimidkeoocchaaReach
set_option linter.unusedVariables false
set_option linter.unusedSimpArgs false
namespace Go.Proofs.Ytnimidkeoocchaa.Mrk
open Go.RowKit Go.Proofs.YtnimidkeoocchaaW.PrintWords Go.Proofs.YtnimidkeoocchaaW.PrintLast Go.Proofs.YtnimidkeoocchaaW.PrintMore Go.Proofs.Ytnimidkeoocchaa.PK Go.Proofs.Ytnimidkeoocchaa.Hnd Go.Proofs.Ytnimidkeoocchaa.Rch

def inB (n : Nat) (k : Int) : Bool := decide (0 ≤ k) && decide (k < (n : Int))
/-- Which things are needed. -/
def needL (l : List Th) : List Bool := fromL (graphL l) (heldL l)
def namedE (l : List Th) (ns : List Int) : Int := if ns.all (inB l.length) = true then (if ns.all (fun n => (needL l).getD n.toNat false) = true then 0 else 8) else 5
theorem graphL_len (l : List Th) : (graphL l).length = l.length := by simp [graphL]
theorem needL_len (l : List Th) : (needL l).length = l.length := by unfold needL; rw [fromL_length, graphL_len]
theorem graphL_in {l : List Th} (h : OkL l) : ∀ r ∈ graphL l, InR (graphL l).length r := by
  intro r hr
  obtain ⟨x, hx, rfl⟩ := List.mem_map.1 hr
  intro k hk
  rw [graphL_len]
  obtain ⟨h1, h2⟩ := List.mem_filter.1 hk
  have h3 := (h.pl x hx).2 k h1
  have h4 : ¬ k < 0 := by unfold posI negI at h2; simpa using h2
  exact ⟨by omega, h3⟩
theorem heldL_in (l : List Th) : InR (graphL l).length (heldL l) := by
  intro k hk
  unfold heldL at hk
  obtain ⟨n, hn, rfl⟩ := List.mem_map.1 hk
  have := (List.mem_filter.1 hn).1
  rw [List.mem_range] at this
  rw [graphL_len]
  exact ⟨by simp, by show ((n : Nat) : Int) < _; omega⟩
theorem all_take {α : Type} {p : α → Bool} {l : List α} {i : Nat} (h : i < l.length) : (l.take (i + 1)).all p = ((l.take i).all p && p l[i]) := by
  rw [List.take_succ_eq_append_getElem h, List.all_append]; simp
theorem all_not {α : Type} {p : α → Bool} {l : List α} {i : Nat} (h : i < l.length) (hp : p l[i] = false) : l.all p = false := by
  rw [Bool.eq_false_iff]
  intro ha
  have := List.all_eq_true.1 ha _ (List.getElem_mem h)
  rw [hp] at this; cases this
set_option maxHeartbeats 16000000 in
set_option maxRecDepth 100000 in
theorem named_calls (w : World) {ok : Nat → Prop} {g : Nat} {kind : Int} {mk : Bool} {v : Value} {ps : List Value} {l : List Th} (h : MS w ok g kind mk v ps l) (ho : OkL l) (AN : Option Addr) (cN : Nat) (ns : List Int) (hN : (Kd.int .i64).C w AN ns.length ns) (hcN : ns.length ≤ cN) (hz : ns.length ≤ 1000) :
    Calls Try.prog 72 #[.pointer (some ⟨g, 0, none⟩), .slice AN ns.length cN] w fun e w' => e = .returned (.int .i64 (namedE l ns)) ∧ Below w.heap.size w w' := by
  have c2 := h.c2
  obtain ⟨AV, cV, ev, hcv⟩ := own_shape h.row
  subst ev
  have HM := Aside0.mk h
  have HO := Aside0.mk ho
  have HNC := Aside0.mk hN
  have HZ := Aside0.mk hz
  have HCALLG := Aside0.mk (fun W (hb : Below w.heap.size w W) => graph_calls W (h.below hb) ho)
  clear h ho hN hz
  go_enter Try.func72, Try.ntmps72
  go_wp2
  go_loopg [13] ns.length (fun kq v13 W => ∃ i : Nat, v13 = .int .i64 (i : Int) ∧ Aside0 (i ≤ ns.length ∧ kq = ns.length - i) ∧ Aside0 ((ns.take i).all (inB l.length) = true) ∧ Aside0 (Below w.heap.size w W))
  case atStart => exact ⟨0, rfl, ⟨Nat.zero_le _, by omega⟩, ⟨rfl⟩, ⟨by repeat (first | exact Below.refl _ _ | apply below_drew1)⟩⟩
  case round =>
    obtain ⟨i, rfl, HIQ, HA, HB⟩ := hrel
    by_cases hlt : i < ns.length
    · have hi0 : (0 : Int) ≤ (i : Int) := by omega
      have hi1 : (i : Int) < (ns.length : Int) := by omega
      obtain ⟨ad, e, hx⟩ := Kd.at_int (Kd.C_below HNC.out HB.out) (i : Int) (by omega) (by omega)
      rw [Int.toNat_natCast, rdI hlt] at hx
      subst e
      have hdec : decide ((i : Int) < (ns.length : Int)) = true := decide_eq_true hi1
      have hdec2 : decide (i < ns.length) = true := decide_eq_true hlt
      have HLT := Aside0.mk hlt
      have c2' : wr.cell? ⟨g, 2, none⟩ = some (.slice AV l.length cV) := pw_cell_below HB.out c2
      have HAT := Aside0.mk (all_take (p := inB l.length) hlt)
      have HAN := Aside0.mk (fun h_ => all_not (p := inB l.length) hlt h_)
      generalize ns[i] = y at hx HAT HAN
      have HW64 : Aside0 (wrap64 ((i : Int) + 1) = ((i + 1 : Nat) : Int)) := ⟨by have := HZ.out; unfold wrap64; omega⟩
      by_cases h0 : y < 0
      · have hd0 : decide (y < 0) = true := decide_eq_true h0
        have HE : Aside0 (namedE l ns = 5) := ⟨by unfold namedE; rw [HAN.out (by unfold inB; rw [decide_eq_false (by omega)]; rfl), if_neg (by decide)]⟩
        clear h0
        go_wp2_with fail
        go_ret
        rw [HE.out]
        exact ⟨rfl, HB.out⟩
      · have hd0 : decide (y < 0) = false := decide_eq_false h0
        by_cases h1 : (l.length : Int) ≤ y
        · have hd1 : decide ((l.length : Int) ≤ y) = true := decide_eq_true h1
          have HE : Aside0 (namedE l ns = 5) := ⟨by unfold namedE; rw [HAN.out (by unfold inB; rw [decide_eq_false (show ¬ y < (l.length : Int) by omega), Bool.and_false]), if_neg (by decide)]⟩
          clear h0 h1
          go_wp2_with fail
          go_ret
          rw [HE.out]
          exact ⟨rfl, HB.out⟩
        · have hd1 : decide ((l.length : Int) ≤ y) = false := decide_eq_false h1
          have HT : Aside0 ((ns.take (i + 1)).all (inB l.length) = true) := ⟨by rw [HAT.out, HA.out]; unfold inB; rw [decide_eq_true (show 0 ≤ y by omega), decide_eq_true (show y < (l.length : Int) by omega)]; rfl⟩
          clear h0 h1
          go_wp2_with fail
          go_roundg (ns.length - (i + 1))
          case measure => have := HIQ.out; have := HLT.out; omega
          case rel => exact ⟨i + 1, by first | rfl | rw [HW64.out], ⟨by have := HLT.out; omega, rfl⟩, HT, HB⟩
    · have e_ : i = ns.length := by have := HIQ.out; omega
      subst e_
      have hdec : decide ((ns.length : Int) < (ns.length : Int)) = false := decide_eq_false (by omega)
      have hdec2 : decide (ns.length < ns.length) = false := decide_eq_false hlt
      have HALL : Aside0 (ns.all (inB l.length) = true) := ⟨by have h_ := HA.out; rwa [List.take_length] at h_⟩
      clear hlt HIQ HA
      go_wp2_with fail
      refine (HCALLG.out wr HB.out).mono ?_
      rintro e w2 ⟨vh, vr, rfl, hvh, hvr, hb2⟩
      obtain ⟨AH, cH, eH⟩ := Kd.R_slice hvh
      subst eH
      obtain ⟨AR, cR, eR⟩ := Kd.R_slice hvr
      subst eR
      obtain ⟨_, hcH, hCH⟩ := Kd.R_reads' hvh
      obtain ⟨_, hcR, hCR⟩ := Kd.R_reads' hvr
      have HB2 : Aside0 (Below w.heap.size w w2) := ⟨below_step HB.out hb2⟩
      have HCH := Aside0.mk hCH
      have HCR := Aside0.mk hCR
      have HCRc := Aside0.mk hcR
      have hbx := below_alloc (Below.refl w2.heap.size w2) (Obj.cells #[.slice AH (graphL l).length cH, .slice AR (heldL l).length cR] 38)
      have hGin := graphL_in HO.out
      have hHin := heldL_in l
      have hGlen := graphL_len l
      have HGL := Aside0.mk (show needL l = fromL (graphL l) (heldL l) from rfl)
      generalize graphL l = gl at hGin hHin hGlen HGL hbx HCH
      generalize heldL l = rl at hHin HGL hbx HCR HCRc
      have HFROM := Aside0.mk (from_calls (w2.alloc (Obj.cells #[.slice AH gl.length cH, .slice AR rl.length cR] 38)) AH cH gl AR rl.length cR AR cR rl (Kd.C_below HCH.out hbx) (Kd.C_below HCR.out hbx) HCRc.out hGin hHin (by rw [hGlen]; have := HO.out.len; omega))
      have HBX : Aside0 (Below w.heap.size w (w2.alloc (Obj.cells #[.slice AH gl.length cH, .slice AR rl.length cR] 38))) := ⟨below_step HB2.out hbx⟩
      rw [← HGL.out] at HFROM
      clear hvh hvr hb2 hCH hCR hcH hcR hbx hGin hHin hGlen
      go_wp2_with fail
      refine HFROM.out.mono ?_
      rintro e w3 ⟨v0, rfl, hv0, hb3⟩
      obtain ⟨AS, cS, eS⟩ := Kd.R_slice hv0
      subst eS
      have HS := Aside0.mk (Kd.R_reads' hv0).2.2
      have HB3 : Aside0 (Below w.heap.size w w3) := ⟨below_step HBX.out hb3⟩
      have HLN := Aside0.mk (needL_len l)
      obtain ⟨sl, hsl⟩ : ∃ sl, sl = needL l := ⟨_, rfl⟩
      rw [← hsl] at HS HLN
      have HSL := Aside0.mk hsl
      have HEQ : Aside0 (namedE l ns = if ns.all (fun n => sl.getD n.toNat false) = true then 0 else 8) := ⟨by unfold namedE; rw [if_pos HALL.out, hsl]⟩
      clear hv0 hb3 hsl HFROM HGL
      go_wp2_with fail
      simp only [← HSL.out]
      go_loopg [37] ns.length (fun kq v37 W => ∃ i : Nat, v37 = .int .i64 (i : Int) ∧ Aside0 (i ≤ ns.length ∧ kq = ns.length - i) ∧ Aside0 ((ns.take i).all (fun n => sl.getD n.toNat false) = true) ∧ Aside0 (Below w3.heap.size w3 W))
      case atStart => exact ⟨0, rfl, ⟨Nat.zero_le _, by omega⟩, ⟨rfl⟩, ⟨Below.refl _ _⟩⟩
      case round =>
        obtain ⟨j, rfl, HJQ, HJ, HBJ⟩ := hrel
        by_cases hlt : j < ns.length
        · have hj0 : (0 : Int) ≤ (j : Int) := by omega
          have hj1 : (j : Int) < (ns.length : Int) := by omega
          obtain ⟨ad, e, hx⟩ := Kd.at_int (Kd.C_below HNC.out (HB3.out.trans (below_cut HBJ.out HB3.out.size))) (j : Int) (by omega) (by omega)
          rw [Int.toNat_natCast, rdI hlt] at hx
          subst e
          have hdec : decide ((j : Int) < (ns.length : Int)) = true := decide_eq_true hj1
          have hdec2 : decide (j < ns.length) = true := decide_eq_true hlt
          have HLT := Aside0.mk hlt
          have HIB := Aside0.mk (List.all_eq_true.1 HALL.out _ (List.getElem_mem hlt))
          have HAT := Aside0.mk (all_take (p := fun n => sl.getD n.toNat false) hlt)
          have HAN := Aside0.mk (fun h_ => all_not (p := fun n => sl.getD n.toNat false) hlt h_)
          generalize ns[j] = y at hx HAT HAN HIB
          have hy : 0 ≤ y ∧ y < (l.length : Int) := by have h_ := HIB.out; unfold inB at h_; simpa using h_
          have hy0 : (0 : Int) ≤ y := hy.1
          have hy1 : y < (sl.length : Int) := by rw [HLN.out]; exact hy.2
          obtain ⟨bd, e, hb⟩ := Kd.at_bool (Kd.C_below HS.out HBJ.out) y hy0 hy1
          subst e
          have hrd : rdOf false sl y = sl.getD y.toNat false := rfl
          rw [hrd] at hb
          have HW64 : Aside0 (wrap64 ((j : Int) + 1) = ((j + 1 : Nat) : Int)) := ⟨by have := HZ.out; unfold wrap64; omega⟩
          cases hq : sl.getD y.toNat false with
          | false =>
            rw [hq] at hb
            have HE : Aside0 (namedE l ns = 8) := ⟨by rw [HEQ.out, HAN.out hq, if_neg (by decide)]⟩
            clear hq hy hrd
            go_wp2_with fail
            go_ret
            rw [HE.out]
            exact ⟨rfl, HB3.out.trans (below_cut HBJ.out HB3.out.size)⟩
          | true =>
            rw [hq] at hb
            have HT : Aside0 ((ns.take (j + 1)).all (fun n => sl.getD n.toNat false) = true) := ⟨by rw [HAT.out, HJ.out, hq]; rfl⟩
            clear hq hy hrd
            go_wp2_with fail
            go_roundg (ns.length - (j + 1))
            case measure => have := HJQ.out; have := HLT.out; omega
            case rel => exact ⟨j + 1, by first | rfl | rw [HW64.out], ⟨by have := HLT.out; omega, rfl⟩, HT, HBJ⟩
        · have e_ : j = ns.length := by have := HJQ.out; omega
          subst e_
          have hdec : decide ((ns.length : Int) < (ns.length : Int)) = false := decide_eq_false (by omega)
          have hdec2 : decide (ns.length < ns.length) = false := decide_eq_false hlt
          have HE : Aside0 (namedE l ns = 0) := ⟨by have h_ := HJ.out; rw [List.take_length] at h_; rw [HEQ.out, if_pos h_]⟩
          clear hlt HJQ HJ
          go_wp2_with fail
          go_ret
          rw [HE.out]
          exact ⟨rfl, HB3.out.trans (below_cut HBJ.out HB3.out.size)⟩
end Go.Proofs.Ytnimidkeoocchaa.Mrk
