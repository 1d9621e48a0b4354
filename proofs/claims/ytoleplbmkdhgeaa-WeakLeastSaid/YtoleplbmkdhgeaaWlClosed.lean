/- The literal within WeakLeast: is a set closed? What it answers. -/
import Derived.Test.YtoleplbmkdhgeaaWeakLive
import Derived.Test.YtoleplbmkdhgeaaHand
set_option linter.unusedVariables false
set_option linter.unusedSimpArgs false
namespace Go.Proofs.Ytoleplbmkdhgeaa.Wls
open Go.RowKit Go.Proofs.YtoleplbmkdhgeaaW.PrintWords Go.Proofs.YtoleplbmkdhgeaaW.PrintLast Go.Proofs.YtoleplbmkdhgeaaW.PrintMore Go.Proofs.Ytoleplbmkdhgeaa.PQ Go.Proofs.Ytoleplbmkdhgeaa.Rch Go.Proofs.Ytoleplbmkdhgeaa.Hnd

def okAt (ins : List Bool) (n : Int) : Bool := ins.getD n.toNat false
def okRow (ins : List Bool) (i : Nat) (l : List Int) : Bool := l.all fun k => !(okAt ins (i : Int) && !okAt ins k)
def okHas (ins : List Bool) (has : List (List Int)) (m : Nat) : Bool := (List.range m).all fun i => okRow ins i (has.getD i [])
def okPair (ins : List Bool) (p : Pair) : Bool := !(okAt ins p.f0 && !okAt ins p.f1)
def closedB (has : List (List Int)) (roots : List Int) (ps : List Pair) (ins : List Bool) : Bool := roots.all (okAt ins) && (okHas ins has has.length && ps.all (okPair ins))
theorem rdB (l : List Bool) (n : Int) : rdOf false l n = okAt l n := rfl
theorem take_all {α : Type} {p : α → Bool} {l : List α} {i : Nat} (h : i < l.length) (ha : (l.take i).all p = true) (hx : p l[i] = true) : (l.take (i + 1)).all p = true := by
  rw [List.take_succ_eq_append_getElem h, List.all_append, ha]
  simp [hx]
theorem all_false {α : Type} {p : α → Bool} {l : List α} {i : Nat} (h : i < l.length) (hx : p l[i] = false) : l.all p = false := List.all_eq_false.2 ⟨_, List.getElem_mem h, by simp [hx]⟩
theorem rd_get (l : List Int) (i : Nat) (h : i < l.length) : rd l (i : Int) = l[i] := by unfold rd; simp [List.getD_eq_getElem?_getD, h]
set_option maxHeartbeats 8000000 in
set_option maxRecDepth 100000 in
theorem closed_calls (w : World) (bg bl : Nat) (AH : Option Addr) (cH : Nat) (has : List (List Int)) (AR : Option Addr) (cR : Nat) (roots : List Int) (AP : Option Addr) (cP : Nat) (ps : List Pair) (AI : Option Addr) (cI : Nat) (ins : List Bool)
    (hg0 : w.cell? ⟨bg, 0, none⟩ = some (.slice AH has.length cH)) (hg1 : w.cell? ⟨bg, 1, none⟩ = some (.slice AR roots.length cR)) (hl0 : w.cell? ⟨bl, 0, none⟩ = some (.slice AP ps.length cP))
    (hH : Kd.C (Kd.slice 3 (Kd.int .i64)) w AH has.length has) (hR : Kd.C (Kd.int .i64) w AR roots.length roots) (hP : Kd.C k28 w AP ps.length ps) (hI : Kd.C Kd.bool w AI ins.length ins)
    (hlen : ins.length = has.length) (hr : InR has.length roots) (hh : ∀ l ∈ has, InR has.length l) (hp : ∀ p ∈ ps, (0 ≤ p.f0 ∧ p.f0 < (has.length : Int)) ∧ (0 ≤ p.f1 ∧ p.f1 < (has.length : Int))) :
    Calls Try.prog 20 #[.slice AI ins.length cI, .pointer (some ⟨bg, 0, none⟩), .pointer (some ⟨bl, 0, none⟩)] w fun e w' => e = .returned (.bool (closedB has roots ps ins)) ∧ Below w.heap.size w w' := by
  have HH := Aside0.mk hH
  have HR := Aside0.mk hR
  have HP := Aside0.mk hP
  have HI := Aside0.mk hI
  have HL := Aside0.mk hlen
  have HRI := Aside0.mk hr
  have HHI := Aside0.mk hh
  have HPI := Aside0.mk hp
  have G0 := Aside0.mk hg0
  have G1 := Aside0.mk hg1
  have G2 := Aside0.mk hl0
  have HSZ : Aside0 (has.length ≤ 9223372036854775807 ∧ roots.length ≤ 9223372036854775807 ∧ ps.length ≤ 9223372036854775807) := ⟨hH.2.1, hR.2.1, hP.2.1⟩
  clear hH hR hP hI hlen hr hh hp hl0
  go_enter Try.func20, Try.ntmps20
  go_wp2_with fail
  clear hg0 hg1
  go_loopg [16] roots.length (fun kq v16 W => ∃ i : Nat, v16 = .int .i64 (i : Int) ∧ Aside0 (i ≤ roots.length ∧ kq = roots.length - i) ∧ Aside0 ((roots.take i).all (okAt ins) = true) ∧ W = w)
  case atStart => exact ⟨0, rfl, ⟨Nat.zero_le _, by omega⟩, ⟨rfl⟩, rfl⟩
  case round =>
    obtain ⟨i, rfl, HIQ, HA, rfl⟩ := hrel
    by_cases hlt : i < roots.length
    · have hi0 : (0 : Int) ≤ (i : Int) := by omega
      have hi1 : (i : Int) < (roots.length : Int) := by omega
      obtain ⟨ad, rfl, hx⟩ := Kd.at_int HR.out (i : Int) hi0 hi1
      rw [Int.toNat_natCast, rd_get _ _ hlt] at hx
      have hn := HRI.out _ (List.getElem_mem hlt)
      have hn0 : (0 : Int) ≤ roots[i] := hn.1
      have hn1 : roots[i] < (ins.length : Int) := by rw [HL.out]; exact hn.2
      obtain ⟨bd, rfl, hy⟩ := Kd.at_bool HI.out roots[i] hn0 hn1
      rw [rdB] at hy
      have hdec : decide ((i : Int) < (roots.length : Int)) = true := decide_eq_true hi1
      have hdec2 : decide (i < roots.length) = true := decide_eq_true hlt
      have HLT := Aside0.mk hlt
      have HT : Aside0 (okAt ins roots[i] = true → (roots.take (i + 1)).all (okAt ins) = true) := ⟨fun h => take_all hlt HA.out h⟩
      have HF : Aside0 (okAt ins roots[i] = false → closedB has roots ps ins = false) := ⟨fun h => by unfold closedB; rw [all_false hlt h, Bool.false_and]⟩
      generalize roots[i] = x at hx hn0 hn1 hy HT HF
      clear hlt hn
      cases hb : okAt ins x with
      | false =>
        rw [hb] at hy
        have hf := HF.out hb
        have HFF := Aside0.mk hf
        clear hb hf HT HF
        go_wp2
        go_ret
        rw [HFF.out]
        exact ⟨rfl, Below.refl _ _⟩
      | true =>
        rw [hb] at hy
        have HTT := Aside0.mk (HT.out hb)
        clear hb HT HF
        go_wp2
        go_roundg (roots.length - (i + 1))
        case measure => have := HIQ.out; have := HLT.out; omega
        case rel => exact ⟨i + 1, by first | rfl | (have := HLT.out; have := HSZ.out.2.1; rw [show wrap64 ((i : Int) + 1) = ((i + 1 : Nat) : Int) from by unfold wrap64; omega]), ⟨by have := HLT.out; omega, rfl⟩, HTT, rfl⟩
    · have hall : roots.all (okAt ins) = true := by
        have h_ := HA.out
        rwa [List.take_of_length_le (by omega)] at h_
      have HALL := Aside0.mk hall
      have hdec : decide ((i : Int) < (roots.length : Int)) = false := decide_eq_false (by omega)
      have hdec2 : decide (i < roots.length) = false := decide_eq_false hlt
      clear hlt hall HA HIQ
      have hg0 := G0.out
      go_wp2_with fail
      clear hg0 hdec hdec2
      go_loopg [29] has.length (fun kq v29 W => ∃ i : Nat, v29 = .int .i64 (i : Int) ∧ Aside0 (i ≤ has.length ∧ kq = has.length - i) ∧ Aside0 (okHas ins has i = true) ∧ W = wr)
      case atStart => exact ⟨0, rfl, ⟨Nat.zero_le _, by omega⟩, ⟨rfl⟩, rfl⟩
      case round =>
        obtain ⟨i, rfl, HIQ, HA, rfl⟩ := hrel
        by_cases hlt : i < has.length
        · have hi0 : (0 : Int) ≤ (i : Int) := by omega
          have hi1 : (i : Int) < (has.length : Int) := by omega
          obtain ⟨ad, B0, d0, rfl, hx, hxl, hxC⟩ := at_L1 HH.out (i : Int) hi0 hi1
          have hrow : rd_L1 has (i : Int) = has.getD i [] := by unfold rd_L1; simp
          rw [hrow] at hx hxl hxC
          rw [Int.toNat_natCast] at hx
          have hin : InR has.length (has.getD i []) := by
            rw [List.getD_eq_getElem?_getD, List.getElem?_eq_getElem hlt]
            exact HHI.out _ (List.getElem_mem hlt)
          obtain ⟨bd, rfl, hy⟩ := Kd.at_bool HI.out (i : Int) hi0 (by rw [HL.out]; exact hi1)
          rw [rdB, Int.toNat_natCast] at hy
          have hdec : decide ((i : Int) < (has.length : Int)) = true := decide_eq_true hi1
          have hdec2 : decide (i < has.length) = true := decide_eq_true hlt
          have hi2 : (i : Int) < (ins.length : Int) := by rw [HL.out]; exact hi1
          have HLT := Aside0.mk hlt
          have HT : Aside0 (okRow ins i (has.getD i []) = true → okHas ins has (i + 1) = true) := ⟨fun h => by
            have h_ := HA.out
            unfold okHas at h_ ⊢
            rw [List.range_succ, List.all_append, h_]
            simp only [List.all_cons, List.all_nil, Bool.and_true, Bool.true_and]
            exact h⟩
          have HF : Aside0 (okRow ins i (has.getD i []) = false → closedB has roots ps ins = false) := ⟨fun h => by
            have h_ : okHas ins has has.length = false := List.all_eq_false.2 ⟨i, List.mem_range.2 hlt, by simp only [h]; decide⟩
            unfold closedB; rw [h_, Bool.false_and, Bool.and_false]⟩
          have HXC := Aside0.mk hxC
          have HIN := Aside0.mk hin
          have hmx : (has.getD i []).length ≤ 9223372036854775807 := hxC.2.1
          generalize has.getD i [] = row at hx hmx HXC HT HF HIN
          have HMX := Aside0.mk hmx
          clear hlt hrow hxl hxC hin hmx
          go_wp2_with fail
          clear hx hdec hdec2
          go_loopg [36] row.length (fun kq v36 W => ∃ j : Nat, v36 = .int .i64 (j : Int) ∧ Aside0 (j ≤ row.length ∧ kq = row.length - j) ∧ Aside0 ((row.take j).all (fun k => !(okAt ins (i : Int) && !okAt ins k)) = true) ∧ W = wr)
          case atStart => exact ⟨0, rfl, ⟨Nat.zero_le _, by omega⟩, ⟨rfl⟩, rfl⟩
          case round =>
            obtain ⟨j, rfl, HJQ, HB, rfl⟩ := hrel
            by_cases hjt : j < row.length
            · have hj0 : (0 : Int) ≤ (j : Int) := by omega
              have hj1 : (j : Int) < (row.length : Int) := by omega
              obtain ⟨ed, rfl, hx⟩ := Kd.at_int HXC.out (j : Int) hj0 hj1
              rw [Int.toNat_natCast, rd_get _ _ hjt] at hx
              have hn := HIN.out _ (List.getElem_mem hjt)
              have hn0 : (0 : Int) ≤ row[j] := hn.1
              have hn1 : row[j] < (ins.length : Int) := by rw [HL.out]; exact hn.2
              obtain ⟨bd2, e2, hz⟩ := Kd.at_bool HI.out row[j] hn0 hn1
              injection e2 with e2
              subst e2
              rw [rdB] at hz
              have hdec : decide ((j : Int) < (row.length : Int)) = true := decide_eq_true hj1
              have hdec2 : decide (j < row.length) = true := decide_eq_true hjt
              have HJT := Aside0.mk hjt
              have HT2 : Aside0 (okAt ins (i : Int) = false ∨ okAt ins row[j] = true → (row.take (j + 1)).all (fun k => !(okAt ins (i : Int) && !okAt ins k)) = true) := ⟨fun h => take_all hjt HB.out (by rcases h with h | h <;> simp [h])⟩
              have HF2 : Aside0 (okAt ins (i : Int) = true → okAt ins row[j] = false → closedB has roots ps ins = false) := ⟨fun h h' => HF.out (all_false hjt (by simp [h, h']))⟩
              generalize row[j] = x at hx hn0 hn1 hz HT2 HF2
              clear hjt hn
              cases hb : okAt ins (i : Int) with
              | false =>
                have HTT := Aside0.mk (HT2.out (.inl hb))
                rw [hb] at hy
                clear hb HT2 HF2
                go_wp2
                go_roundg (row.length - (j + 1))
                case measure => have := HJQ.out; have := HJT.out; omega
                case rel => exact ⟨j + 1, by first | rfl | (have := HJT.out; have := HMX.out; rw [show wrap64 ((j : Int) + 1) = ((j + 1 : Nat) : Int) from by unfold wrap64; omega]), ⟨by have := HJT.out; omega, rfl⟩, HTT, rfl⟩
              | true =>
                rw [hb] at hy
                cases hc : okAt ins x with
                | false =>
                  have HFF := Aside0.mk (HF2.out hb hc)
                  rw [hc] at hz
                  clear hb hc HT2 HF2
                  go_wp2
                  go_ret
                  rw [HFF.out]
                  exact ⟨rfl, Below.refl _ _⟩
                | true =>
                  have HTT := Aside0.mk (HT2.out (.inr hc))
                  rw [hc] at hz
                  clear hb hc HT2 HF2
                  go_wp2
                  go_roundg (row.length - (j + 1))
                  case measure => have := HJQ.out; have := HJT.out; omega
                  case rel => exact ⟨j + 1, by first | rfl | (have := HJT.out; have := HMX.out; rw [show wrap64 ((j : Int) + 1) = ((j + 1 : Nat) : Int) from by unfold wrap64; omega]), ⟨by have := HJT.out; omega, rfl⟩, HTT, rfl⟩
            · have HTT := Aside0.mk (HT.out (by
                have h_ := HB.out
                rwa [List.take_of_length_le (by omega)] at h_))
              have hdec : decide ((j : Int) < (row.length : Int)) = false := decide_eq_false (by omega)
              have hdec2 : decide (j < row.length) = false := decide_eq_false hjt
              clear hjt HT HF HB
              go_wp2
              go_roundg (has.length - (i + 1))
              case measure => have := HIQ.out; have := HLT.out; omega
              case rel => exact ⟨i + 1, by first | rfl | (have := HLT.out; have := HSZ.out.1; rw [show wrap64 ((i : Int) + 1) = ((i + 1 : Nat) : Int) from by unfold wrap64; omega]), ⟨by have := HLT.out; omega, rfl⟩, HTT, rfl⟩
        · have hall2 : okHas ins has has.length = true := by
            have h_ := HA.out
            have e_ : i = has.length := by have := HIQ.out; omega
            rwa [e_] at h_
          have HALL2 := Aside0.mk hall2
          have hdec : decide ((i : Int) < (has.length : Int)) = false := decide_eq_false (by omega)
          have hdec2 : decide (i < has.length) = false := decide_eq_false hlt
          clear hlt hall2 HA HIQ
          have hl0 := G2.out
          go_wp2_with fail
          clear hl0 hdec hdec2
          obtain ⟨wo, rfl⟩ : ∃ wo : World, wo = wr := ⟨_, rfl⟩
          go_loopg [55] ps.length (fun kq v55 W => ∃ i : Nat, v55 = .int .i64 (i : Int) ∧ Aside0 (i ≤ ps.length ∧ kq = ps.length - i) ∧ Aside0 ((ps.take i).all (okPair ins) = true) ∧ Aside0 (Below wo.heap.size wo W))
          case atStart => exact ⟨0, rfl, ⟨Nat.zero_le _, by omega⟩, ⟨rfl⟩, ⟨Below.refl _ _⟩⟩
          case round =>
            obtain ⟨i, rfl, HIQ, HA, HB⟩ := hrel
            by_cases hlt : i < ps.length
            · have hi0 : (0 : Int) ≤ (i : Int) := by omega
              have hi1 : (i : Int) < (ps.length : Int) := by omega
              obtain ⟨ad, rfl, hx0, hx1⟩ := at_pair (Kd.C_below HP.out HB.out) i hlt
              have hge : ps.getD i z28 = ps[i] := by rw [List.getD_eq_getElem?_getD, List.getElem?_eq_getElem hlt]; rfl
              rw [hge] at hx0 hx1
              have hn := HPI.out _ (List.getElem_mem hlt)
              have ha0 : (0 : Int) ≤ ps[i].f0 := hn.1.1
              have ha1 : ps[i].f0 < (ins.length : Int) := by rw [HL.out]; exact hn.1.2
              have hb0 : (0 : Int) ≤ ps[i].f1 := hn.2.1
              have hb1 : ps[i].f1 < (ins.length : Int) := by rw [HL.out]; exact hn.2.2
              obtain ⟨bd, rfl, hy⟩ := Kd.at_bool (Kd.C_below HI.out HB.out) ps[i].f0 ha0 ha1
              obtain ⟨bd2, e2, hz⟩ := Kd.at_bool (Kd.C_below HI.out HB.out) ps[i].f1 hb0 hb1
              injection e2 with e2
              subst e2
              rw [rdB] at hy hz
              have hdec : decide ((i : Int) < (ps.length : Int)) = true := decide_eq_true hi1
              have hdec2 : decide (i < ps.length) = true := decide_eq_true hlt
              have HLT := Aside0.mk hlt
              have HT2 : Aside0 (okAt ins ps[i].f0 = false ∨ okAt ins ps[i].f1 = true → (ps.take (i + 1)).all (okPair ins) = true) := ⟨fun h => take_all hlt HA.out (by unfold okPair; rcases h with h | h <;> simp [h])⟩
              have HF2 : Aside0 (okAt ins ps[i].f0 = true → okAt ins ps[i].f1 = false → closedB has roots ps ins = false) := ⟨fun h h' => by
                unfold closedB; rw [all_false (p := okPair ins) hlt (by unfold okPair; simp [h, h']), Bool.and_false, Bool.and_false]⟩
              generalize ps[i] = p at hx0 hx1 ha0 ha1 hb0 hb1 hy hz HT2 HF2
              replace hy := pw_cell_below (below_alloc (Below.refl _ wr) (Obj.cells #[.int .i64 p.f0, .int .i64 p.f1] 28)) hy
              replace hz := pw_cell_below (below_alloc (Below.refl _ wr) (Obj.cells #[.int .i64 p.f0, .int .i64 p.f1] 28)) hz
              clear hlt hn hge
              cases hb : okAt ins p.f0 with
              | false =>
                have HTT := Aside0.mk (HT2.out (.inl hb))
                rw [hb] at hy
                clear hb HT2 HF2
                go_wp2
                go_roundg (ps.length - (i + 1))
                case measure => have := HIQ.out; have := HLT.out; omega
                case rel => exact ⟨i + 1, by first | rfl | (have := HLT.out; have := HSZ.out.2.2; rw [show wrap64 ((i : Int) + 1) = ((i + 1 : Nat) : Int) from by unfold wrap64; omega]), ⟨by have := HLT.out; omega, rfl⟩, HTT, ⟨by repeat (first | exact HB.out | apply below_alloc | apply pw_below_drewN | apply below_drew1)⟩⟩
              | true =>
                rw [hb] at hy
                cases hc : okAt ins p.f1 with
                | false =>
                  have HFF := Aside0.mk (HF2.out hb hc)
                  rw [hc] at hz
                  clear hb hc HT2 HF2
                  go_wp2
                  go_ret
                  rw [HFF.out]
                  exact ⟨rfl, by repeat (first | exact HB.out | apply below_alloc | apply pw_below_drewN | apply below_drew1)⟩
                | true =>
                  have HTT := Aside0.mk (HT2.out (.inr hc))
                  rw [hc] at hz
                  clear hb hc HT2 HF2
                  go_wp2
                  go_roundg (ps.length - (i + 1))
                  case measure => have := HIQ.out; have := HLT.out; omega
                  case rel => exact ⟨i + 1, by first | rfl | (have := HLT.out; have := HSZ.out.2.2; rw [show wrap64 ((i : Int) + 1) = ((i + 1 : Nat) : Int) from by unfold wrap64; omega]), ⟨by have := HLT.out; omega, rfl⟩, HTT, ⟨by repeat (first | exact HB.out | apply below_alloc | apply pw_below_drewN | apply below_drew1)⟩⟩
            · have hall3 : ps.all (okPair ins) = true := by
                have h_ := HA.out
                rwa [List.take_of_length_le (by omega)] at h_
              have HC : Aside0 (closedB has roots ps ins = true) := ⟨by unfold closedB; rw [HALL.out, HALL2.out, hall3]; rfl⟩
              have hdec : decide ((i : Int) < (ps.length : Int)) = false := decide_eq_false (by omega)
              have hdec2 : decide (i < ps.length) = false := decide_eq_false hlt
              clear hlt hall3 HA HIQ
              go_wp2
              go_ret
              rw [HC.out]
              exact ⟨rfl, HB.out⟩
end Go.Proofs.Ytoleplbmkdhgeaa.Wls
