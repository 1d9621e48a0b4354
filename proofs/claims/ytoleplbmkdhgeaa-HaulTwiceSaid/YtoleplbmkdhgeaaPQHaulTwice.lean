/- The law function HaulTwice: what it answers. -/
import Derived.Test.YtoleplbmkdhgeaaHaulHd
import Derived.Deep.DeepCutAuto
set_option linter.unusedVariables false
set_option linter.unusedSimpArgs false
namespace Go.Proofs.Ytoleplbmkdhgeaa.PQ
open Go.RowKit Go.Proofs.YtoleplbmkdhgeaaW.PrintWords Go.Proofs.YtoleplbmkdhgeaaW.PrintLast Go.Proofs.YtoleplbmkdhgeaaW.PrintMore Go.Proofs.Ytoleplbmkdhgeaa.Hnd Go.Proofs.Ytoleplbmkdhgeaa.Hal

theorem at_mv {w : World} {A : Option Addr} {n : Nat} {xs : List (S56)} (h : Kd.C k56 w A n xs) (i : Nat) (hi : i < n) : ∃ ad, A = some ad ∧ w.cell? (ad.add (i * 2)) = some (.int .i64 (xs.getD i z56).f0) ∧ w.cell? ⟨(ad.add (i * 2)).block, (ad.add (i * 2)).off + 1, none⟩ = some (.int .i64 (xs.getD i z56).f1) := by
  obtain ⟨ad, e, h0, h1⟩ := at_T56 h (i : Int) (by omega) (by omega)
  exact ⟨ad, e, by simpa [rd_T56] using h0, by simpa [rd_T56] using h1⟩
theorem eq_u64 {l : List Int} (hl : l.length ≤ 1000000) : backstitchref3_Eq_uint64.f (l.length + 1) l l = some true := by
  have h : ∀ (k i : Nat), l.length - i ≤ k → i ≤ l.length → backstitchref3_Eq_uint64.l0 (k + 1) l l (l.length : Int) (i : Int) = some true := by
    intro k
    induction k with
    | zero => intro i h1 h2; rw [backstitchref3_Eq_uint64.l0, if_neg (by omega)]
    | succ k ih =>
      intro i h1 h2
      rw [backstitchref3_Eq_uint64.l0]
      by_cases h : i < l.length
      · rw [if_pos (by omega), if_pos (by omega), if_pos (by omega), if_pos (by omega), if_pos rfl]
        have e : wrap64 ((i : Int) + 1) = ((i + 1 : Nat) : Int) := by unfold wrap64; omega
        rw [e]; exact ih (i + 1) (by omega) (by omega)
      · rw [if_neg (by omega)]
  unfold backstitchref3_Eq_uint64.f
  rw [if_pos rfl]
  exact h l.length 0 (by omega) (by omega)
open Classical in
noncomputable def backstitchkeep3_HaulTwice.f (k : Nat) (l0_0 l0_1 : List Int) : Option Bool := if (∀ x ∈ l0_0, U64 x) ∧ (∀ x ∈ l0_1, U64 x) then some true else none
set_option maxHeartbeats 16000000 in
set_option maxRecDepth 100000 in
theorem backstitchkeep3_HaulTwice.calls (k : Nat) (A0_0 : Option Addr) (c0_0 : Nat) (l0_0 : List Int) (A0_1 : Option Addr) (c0_1 : Nat) (l0_1 : List Int) (r : Bool) (w : World)
    (hr0_0 : Kd.C (Kd.int .u64) w A0_0 l0_0.length l0_0) (hc0_0 : l0_0.length ≤ c0_0) (hr0_1 : Kd.C (Kd.int .u64) w A0_1 l0_1.length l0_1) (hc0_1 : l0_1.length ≤ c0_1) (h : backstitchkeep3_HaulTwice.f k l0_0 l0_1 = some r) :
    Calls Try.prog 10 #[.agg #[.slice A0_0 l0_0.length c0_0, .slice A0_1 l0_1.length c0_1]] w fun e w' => e = .returned (.bool r) ∧ Below w.heap.size w w' := by
  unfold backstitchkeep3_HaulTwice.f at h
  have hok : (∀ x ∈ l0_0, U64 x) ∧ (∀ x ∈ l0_1, U64 x) := by
    by_cases hx : (∀ x ∈ l0_0, U64 x) ∧ (∀ x ∈ l0_1, U64 x)
    · exact hx
    · rw [if_neg hx] at h; exact absurd h (by simp)
  rw [if_pos hok] at h
  obtain rfl := Option.some.inj h
  have H0 := Aside0.mk hr0_0
  have H1 := Aside0.mk hr0_1
  have C0 := Aside0.mk hc0_0
  have C1 := Aside0.mk hc0_1
  have HU := Aside0.mk hok.1
  have HV := Aside0.mk hok.2
  have hb0 : Below w.heap.size w (w.alloc (Obj.cells #[.slice A0_0 l0_0.length c0_0, .slice A0_1 l0_1.length c0_1] 51)) := below_alloc (Below.refl _ _) _
  have hk0 := heap_alloc_new w (Obj.cells #[.slice A0_0 l0_0.length c0_0, .slice A0_1 l0_1.length c0_1] 51)
  have HB0 := Aside0.mk hb0
  have HK0 := Aside0.mk hk0
  clear h hok hr0_0 hr0_1 hc0_0 hc0_1 hb0 hk0
  go_enter Try.func10, Try.ntmps10
  go_wp2_with fail
  refine (hauled_calls _).mono ?_
  rintro e w1 ⟨rfl, hb⟩
  have hk1 := blk_below HK0.out hb
  have HB1 : Aside0 (Below w.heap.size w w1) := ⟨below_step HB0.out hb⟩
  have hq0 : w1.cell? ⟨w.heap.size, 0, none⟩ = some (.slice A0_0 l0_0.length c0_0) := (blk_cell hk1 0).trans rfl
  have hq1 : w1.cell? ⟨w.heap.size, 1, none⟩ = some (.slice A0_1 l0_1.length c0_1) := (blk_cell hk1 1).trans rfl
  clear hb hk1 HB0 HK0
  go_wp2_with fail
  refine (collect_h w1 A0_0 c0_0 l0_0 A0_1 c0_1 l0_1 (Kd.C_below H0.out HB1.out) C0.out (Kd.C_below H1.out HB1.out) HU.out HV.out).mono ?_
  clear hq0 hq1
  rintro e w2 (⟨h0, rfl, hb⟩ | ⟨h0, hh, c, fs, outs, vto, vouts, vold, rfl, hF, hr1, hr2, hr3, hb⟩)
  · have HB2 : Aside0 (Below w.heap.size w w2) := ⟨HB1.out.trans (below_cut hb HB1.out.size)⟩
    generalize chkE l0_0 l0_1 (objF l0_0).1 (objF l0_0).2 = E at h0 ⊢
    have hd : (E != 0) = true := by simp [h0]
    have hd2 : decide (E = 0) = false := decide_eq_false h0
    clear hb h0
    go_wp2_with fail
    refine (hauled_calls _).mono ?_
    rintro e w3 ⟨rfl, hb⟩
    have HB3 : Aside0 (Below w.heap.size w w3) := ⟨by
      refine Below.trans ?_ (below_cut hb ?_)
      · exact below_alloc HB2.out _
      · exact Nat.le_trans HB2.out.size (by simp)⟩
    clear hb
    go_wp2
    go_ret
    exact ⟨rfl, HB3.out⟩
  have HH := Aside0.mk hh
  have HF := Aside0.mk hF
  obtain ⟨A1, c1, rfl, hc1, hC1⟩ := Kd.R_reads hr1
  obtain ⟨A2, c2, rfl, hc2, hC2⟩ := Kd.R_reads hr2
  obtain ⟨A3, c3, rfl, hc3, hC3⟩ := Kd.R_reads hr3
  have HC1 := Aside0.mk hC1
  have HC2 := Aside0.mk hC2
  have HL1 := Aside0.mk hc1
  have HL2 := Aside0.mk hc2
  have HB2 : Aside0 (Below w.heap.size w w2) := ⟨HB1.out.trans (below_cut hb HB1.out.size)⟩
  clear h0 hb hr1 hr2 hr3 hC1 hC2 hC3 hc1 hc2 hc3 hh hF HB1
  go_upto_region 6 with fail
  generalize hw3 : World.alloc _ _ = w3
  have hd3 : w3.heap[w2.heap.size]? = some (.cells #[.slice A1 c.dst.length c1, .slice A2 outs.length c2] 51 (0, 0)) := by
    rw [← hw3]
    exact heap_alloc_new _ _
  have hb3 : Below w2.heap.size w2 w3 := by
    rw [← hw3]
    exact below_alloc (Below.refl _ _) _
  have hq0 : w3.cell? ⟨w2.heap.size, 0, none⟩ = some (.slice A1 c.dst.length c1) := (blk_cell hd3 0).trans rfl
  have hq1 : w3.cell? ⟨w2.heap.size, 1, none⟩ = some (.slice A2 outs.length c2) := (blk_cell hd3 1).trans rfl
  have hu := fin_u64 HH.out HU.out HV.out HF.out
  have HCALL := Aside0.mk (collect_h w3 A1 c1 c.dst A2 c2 outs (Kd.C_below HC1.out hb3) HL1.out (Kd.C_below HC2.out hb3) hu.1 hu.2)
  have HD3 := Aside0.mk hd3
  have HB23 := Aside0.mk hb3
  clear hw3 hd3 hb3 hu
  go_wp2_with fail
  refine HCALL.out.mono ?_
  clear hq0 hq1
  have hck : chkE c.dst outs (objF c.dst).1 (objF c.dst).2 = 0 := by rw [fin_obj HF.out]; exact fin_chk HH.out HU.out HV.out HF.out
  rintro e w4 (⟨h0, _⟩ | ⟨h0, hh2, cc, fs2, outs2, vto2, vouts2, vold2, rfl, hF2, hr1, hr2, hr3, hb⟩)
  · exact (h0 hck).elim
  rw [fin_obj HF.out] at hF2
  obtain ⟨g1, g2, g3, g4⟩ := fin_again HH.out HU.out HV.out HF.out hF2
  obtain ⟨A4, c4, rfl, hc4, hC4⟩ := Kd.R_reads hr1
  obtain ⟨A5, c5, rfl, hc5, hC5⟩ := Kd.R_reads hr2
  obtain ⟨A6, c6, rfl, hc6, hC6⟩ := Kd.R_reads hr3
  have hfl := fin_len HH.out HF.out
  have hl1 := HH.out.len
  have hl2 := HH.out.rlen
  have hl3 : (objF l0_0).1.length ≤ l0_0.length := objW_len _ _
  have hml : cc.mvs.length = c.mvs.length := by rw [g2, List.length_map, hfl.2.2.2.1, hfl.2.2.2.2]
  have hms : ∀ m ∈ cc.mvs, m.f0 = m.f1 := by
    intro m hm; rw [g2] at hm
    obtain ⟨x, _, rfl⟩ := List.mem_map.1 hm; rfl
  have HZ : Aside0 (c.dst.length ≤ 2000 ∧ outs.length ≤ 2000 ∧ c.mvs.length ≤ 2000) := ⟨by omega⟩
  rw [g3] at hC4 hc4 ⊢
  rw [g4] at hC5 hc5 ⊢
  generalize cc.mvs = ms at hC6 hc6 hml hms ⊢
  have HML := Aside0.mk hml
  have HMS := Aside0.mk hms
  have HC4 := Aside0.mk hC4
  have HC5 := Aside0.mk hC5
  have HC6 := Aside0.mk hC6
  have HL4 := Aside0.mk hc4
  have HL5 := Aside0.mk hc5
  have HB34 := Aside0.mk hb
  clear hr1 hr2 hr3 hC4 hC5 hC6 hc4 hc5 hc6 hb g1 g2 g3 g4 hF2 hh2 hml hms hfl hl1 hl2 hl3 h0 HCALL hck
  go_upto_region 7 with fail
  generalize hw5 : World.alloc _ _ = w5
  have hd5 : w5.heap[w4.heap.size]? = some (.cells #[.slice A4 c.dst.length c4, .slice A5 outs.length c5] 51 (0, 0)) := by
    rw [← hw5]
    exact heap_alloc_new _ _
  have hb5 : Below w4.heap.size w4 w5 := by
    rw [← hw5]
    exact below_alloc (Below.refl _ _) _
  have HD5 := Aside0.mk hd5
  have HB45 := Aside0.mk hb5
  clear hw5 hd5 hb5
  go_wp2_with fail
  go_loopg [30] ms.length (fun kq v30 W => ∃ i : Nat, v30 = .int .i64 (i : Int) ∧ Aside0 (i ≤ ms.length ∧ kq = ms.length - i) ∧ Aside0 (Below w5.heap.size w5 W))
  case atStart => exact ⟨0, rfl, ⟨Nat.zero_le _, by omega⟩, ⟨Below.refl _ _⟩⟩
  case round =>
    obtain ⟨i, rfl, HIQ, HB⟩ := hrel
    by_cases hlt : i < ms.length
    · have hi0 : (0 : Int) ≤ (i : Int) := by omega
      have hi1 : (i : Int) < (ms.length : Int) := by omega
      obtain ⟨ad, rfl, hx0, hx1⟩ := at_mv (Kd.C_below HC6.out (below_step HB45.out HB.out)) i hlt
      have hge : ms.getD i z56 = ms[i] := by rw [List.getD_eq_getElem?_getD, List.getElem?_eq_getElem hlt]; rfl
      rw [hge] at hx0 hx1
      have hne := HMS.out _ (List.getElem_mem hlt)
      have hdec : decide ((i : Int) < (ms.length : Int)) = true := decide_eq_true hi1
      have hdec2 : decide (i < ms.length) = true := decide_eq_true hlt
      have HLT := Aside0.mk hlt
      generalize ms[i] = p at hx0 hx1 hne
      have hpp : (p.f0 != p.f1) = false := by simp [hne]
      clear hlt hge hne
      go_wp2
      go_roundg (ms.length - (i + 1))
      case measure => have := HIQ.out; have := HLT.out; omega
      case rel => exact ⟨i + 1, by first | rfl | (have := HLT.out; have := HZ.out.2.2; have := HML.out; rw [show wrap64 ((i : Int) + 1) = ((i + 1 : Nat) : Int) from by unfold wrap64; omega]), ⟨by have := HLT.out; omega, rfl⟩, ⟨by repeat (first | exact HB.out | refine Below.setCell ?_ (by exact HB.out.size) _ | apply below_alloc | apply pw_below_drewN | apply below_drew1)⟩⟩
    · have e_ : i = ms.length := by have := HIQ.out; omega
      subst e_
      have hdec : decide ((ms.length : Int) < (ms.length : Int)) = false := decide_eq_false (by omega)
      have hdec2 : decide (ms.length < ms.length) = false := decide_eq_false hlt
      clear hlt HIQ
      go_wp2_with fail
      refine (hauled_calls _).mono ?_
      rintro e w7 ⟨rfl, hb⟩
      have hb57 : Below w5.heap.size w5 w7 := below_step HB.out hb
      have hd7 := blk_below HD5.out hb57
      have hb37 : Below w3.heap.size w3 w7 := below_step HB34.out (below_step HB45.out hb57)
      have hd8 := blk_below HD3.out hb37
      have hq0 : w7.cell? ⟨w4.heap.size, 0, none⟩ = some (.slice A4 c.dst.length c4) := (blk_cell hd7 0).trans rfl
      have hq1 : w7.cell? ⟨w2.heap.size, 0, none⟩ = some (.slice A1 c.dst.length c1) := (blk_cell hd8 0).trans rfl
      have hml : ((ms.length : Int) == (c.mvs.length : Int)) = true := by rw [HML.out]; simp
      have hml2 : (ms.length == c.mvs.length) = true := by rw [HML.out]; simp
      have hml3 : ms.length = c.mvs.length := HML.out
      have hb47 : Below w4.heap.size w4 w7 := below_step HB45.out hb57
      have hb27 : Below w2.heap.size w2 w7 := below_step HB23.out hb37
      have HCALL1 := Aside0.mk (backstitchref3_Eq_uint64.calls (c.dst.length + 1) A4 c4 c.dst A1 c1 c.dst true w7 (Kd.C_below HC4.out hb47) HL4.out (Kd.C_below HC1.out hb27) HL1.out (eq_u64 (by have := HZ.out.1; omega)))
      have HD7 := Aside0.mk hd7
      have HD8 := Aside0.mk hd8
      have HB47 := Aside0.mk hb47
      have HB27 := Aside0.mk hb27
      clear hb hb57 hd7 hb37 hd8 hb47 hb27
      go_wp2_with fail
      refine HCALL1.out.mono ?_
      rintro e w8 ⟨rfl, hb⟩
      have hr0 : w8.cell? ⟨w4.heap.size, 1, none⟩ = some (.slice A5 outs.length c5) := (blk_cell (blk_below HD7.out hb.below) 1).trans rfl
      have hr1 : w8.cell? ⟨w2.heap.size, 1, none⟩ = some (.slice A2 outs.length c2) := (blk_cell (blk_below HD8.out hb.below) 1).trans rfl
      have HCALL2 := Aside0.mk (backstitchref3_Eq_uint64.calls (outs.length + 1) A5 c5 outs A2 c2 outs true w8 (Kd.C_below HC5.out (below_step HB47.out hb.below)) HL5.out (Kd.C_below HC2.out (below_step HB27.out hb.below)) HL2.out (eq_u64 (by have := HZ.out.2.1; omega)))
      have HB28 : Aside0 (Below w2.heap.size w2 w8) := ⟨below_step HB27.out hb.below⟩
      clear hq0 hq1 hb
      go_wp2_with fail
      refine HCALL2.out.mono ?_
      rintro e w9 ⟨rfl, hb⟩
      have HB9 : Aside0 (Below w.heap.size w w9) := ⟨HB2.out.trans (below_cut (below_step HB28.out hb.below) HB2.out.size)⟩
      clear hb
      go_wp2
      go_ret
      exact ⟨rfl, HB9.out⟩
end Go.Proofs.Ytoleplbmkdhgeaa.PQ
