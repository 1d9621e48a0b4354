/- The law function HaulLess: what it answers. -/
import Derived.Test.YtoleplbmkdhgeaaHaulMo
import Derived.Test.YtoleplbmkdhgeaaHaulOb
import Derived.Test.YtoleplbmkdhgeaaHasPure
import Derived.Deep.DeepCutAuto
set_option linter.unusedVariables false
set_option linter.unusedSimpArgs false
namespace Go.Proofs.Ytoleplbmkdhgeaa.PQ
open Go.RowKit Go.Proofs.YtoleplbmkdhgeaaW.PrintWords Go.Proofs.YtoleplbmkdhgeaaW.PrintLast Go.Proofs.YtoleplbmkdhgeaaW.PrintMore Go.Proofs.Ytoleplbmkdhgeaa.Hnd Go.Proofs.Ytoleplbmkdhgeaa.Hal Go.Proofs.Ytoleplbmkdhgeaa.Hsp

open Classical in
noncomputable def backstitchkeep3_HaulLess.f (k : Nat) (l0_0 l0_1 : List Int) : Option Bool := if (∀ x ∈ l0_0, U64 x) ∧ (∀ x ∈ l0_1, U64 x) then some true else none
set_option maxHeartbeats 16000000 in
set_option maxRecDepth 100000 in
theorem backstitchkeep3_HaulLess.calls (k : Nat) (A0_0 : Option Addr) (c0_0 : Nat) (l0_0 : List Int) (A0_1 : Option Addr) (c0_1 : Nat) (l0_1 : List Int) (r : Bool) (w : World)
    (hr0_0 : Kd.C (Kd.int .u64) w A0_0 l0_0.length l0_0) (hc0_0 : l0_0.length ≤ c0_0) (hr0_1 : Kd.C (Kd.int .u64) w A0_1 l0_1.length l0_1) (hc0_1 : l0_1.length ≤ c0_1) (h : backstitchkeep3_HaulLess.f k l0_0 l0_1 = some r) :
    Calls Try.prog 12 #[.agg #[.slice A0_0 l0_0.length c0_0, .slice A0_1 l0_1.length c0_1]] w fun e w' => e = .returned (.bool r) ∧ Below w.heap.size w w' := by
  unfold backstitchkeep3_HaulLess.f at h
  have hok : (∀ x ∈ l0_0, U64 x) ∧ (∀ x ∈ l0_1, U64 x) := by
    by_cases hx : (∀ x ∈ l0_0, U64 x) ∧ (∀ x ∈ l0_1, U64 x)
    · exact hx
    · rw [if_neg hx] at h; exact absurd h (by simp)
  rw [if_pos hok] at h
  obtain rfl := Option.some.inj h
  have H0 := Aside0.mk hr0_0
  have H1 := Aside0.mk hr0_1
  have C0 := Aside0.mk hc0_0
  have C1 := Aside0.mk hc0_1
  have HU := Aside0.mk hok.1
  have HV := Aside0.mk hok.2
  have hb0 : Below w.heap.size w (w.alloc (Obj.cells #[.slice A0_0 l0_0.length c0_0, .slice A0_1 l0_1.length c0_1] 51)) := below_alloc (Below.refl _ _) _
  have hk0 := heap_alloc_new w (Obj.cells #[.slice A0_0 l0_0.length c0_0, .slice A0_1 l0_1.length c0_1] 51)
  have HB0 := Aside0.mk hb0
  have HK0 := Aside0.mk hk0
  clear h hok hr0_0 hr0_1 hc0_0 hc0_1 hb0 hk0
  go_enter Try.func12, Try.ntmps12
  go_wp2_with fail
  refine (hauled_calls _).mono ?_
  rintro e w1 ⟨rfl, hb⟩
  have hk1 := blk_below HK0.out hb
  have HK1 := Aside0.mk hk1
  have HB1 : Aside0 (Below w.heap.size w w1) := ⟨below_step HB0.out hb⟩
  have hq0 : w1.cell? ⟨w.heap.size, 0, none⟩ = some (.slice A0_0 l0_0.length c0_0) := (blk_cell hk1 0).trans rfl
  have hq1 : w1.cell? ⟨w.heap.size, 1, none⟩ = some (.slice A0_1 l0_1.length c0_1) := (blk_cell hk1 1).trans rfl
  clear hb hk1 HB0 HK0
  go_wp2_with fail
  refine (collect_h w1 A0_0 c0_0 l0_0 A0_1 c0_1 l0_1 (Kd.C_below H0.out HB1.out) C0.out (Kd.C_below H1.out HB1.out) HU.out HV.out).mono ?_
  clear hq0 hq1
  rintro e w2 (⟨h0, rfl, hb⟩ | ⟨h0, hh, c, fs, outs, vto, vouts, vold, rfl, hF, hr1, hr2, hr3, hb⟩)
  · have HB2 : Aside0 (Below w.heap.size w w2) := ⟨HB1.out.trans (below_cut hb HB1.out.size)⟩
    have HK2 : Aside0 (w2.heap[w.heap.size]? = some (.cells #[.slice A0_0 l0_0.length c0_0, .slice A0_1 l0_1.length c0_1] 51 (0, 0))) := ⟨blk_below HK1.out hb⟩
    have HE := Aside0.mk h0
    clear hb h0 HK1 HB1
    go_upto_region 4 with fail
    generalize hw3 : World.alloc _ _ = w3
    have hb3 : Below w2.heap.size w2 w3 := by
      rw [← hw3]
      exact below_alloc (Below.refl _ _) _
    have hk3 := blk_below HK2.out hb3
    have HB3 : Aside0 (Below w.heap.size w w3) := ⟨HB2.out.trans (below_cut hb3 HB2.out.size)⟩
    have hq0 : w3.cell? ⟨w.heap.size, 0, none⟩ = some (.slice A0_0 l0_0.length c0_0) := (blk_cell hk3 0).trans rfl
    have hq1 : w3.cell? ⟨w.heap.size, 1, none⟩ = some (.slice A0_1 l0_1.length c0_1) := (blk_cell hk3 1).trans rfl
    have HCALL := Aside0.mk (objects_calls w3 A0_0 c0_0 l0_0 A0_1 c0_1 l0_1 (Kd.C_below H0.out HB3.out) C0.out (Kd.C_below H1.out HB3.out) HU.out HV.out)
    clear hw3 hb3 hk3 HB2 HK2
    go_wp2_with fail
    refine HCALL.out.mono ?_
    clear hq0 hq1
    rintro e w4 (⟨_, rfl, hb⟩ | ⟨h0, _⟩)
    · have HB4 : Aside0 (Below w.heap.size w w4) := ⟨HB3.out.trans (below_cut hb HB3.out.size)⟩
      have h0 := HE.out
      generalize chkE l0_0 l0_1 (objF l0_0).1 (objF l0_0).2 = E at h0 ⊢
      have hd : (E != 0) = true := by simp [h0]
      have hd2 : decide (E = 0) = false := decide_eq_false h0
      have hd3 : (E == E) = true := by simp
      clear hb h0 HCALL HE
      go_wp2_with fail
      refine (hauled_calls _).mono ?_
      rintro e w5 ⟨rfl, hb⟩
      have HB5 : Aside0 (Below w.heap.size w w5) := ⟨below_step HB4.out hb⟩
      clear hb
      go_wp2
      go_ret
      exact ⟨rfl, HB5.out⟩
    · exact (HE.out h0).elim
  have HH := Aside0.mk hh
  have HF := Aside0.mk hF
  have HE := Aside0.mk h0
  obtain ⟨A1, c1, rfl, hc1, hC1⟩ := Kd.R_reads hr1
  obtain ⟨A2, c2, rfl, hc2, hC2⟩ := Kd.R_reads hr2
  obtain ⟨A3, c3, rfl, hc3, hC3⟩ := Kd.R_reads hr3
  have HC1 := Aside0.mk hC1
  have HC2 := Aside0.mk hC2
  have HC3 := Aside0.mk hC3
  have HL1 := Aside0.mk hc1
  have HL2 := Aside0.mk hc2
  have HK2 : Aside0 (w2.heap[w.heap.size]? = some (.cells #[.slice A0_0 l0_0.length c0_0, .slice A0_1 l0_1.length c0_1] 51 (0, 0))) := ⟨blk_below HK1.out hb⟩
  have HB2 : Aside0 (Below w.heap.size w w2) := ⟨HB1.out.trans (below_cut hb HB1.out.size)⟩
  clear h0 hb hr1 hr2 hr3 hC1 hC2 hC3 hc1 hc2 hc3 hh hF HB1 HK1
  go_upto_region 4 with fail
  generalize hw3 : World.alloc _ _ = w3
  have hd3 : w3.heap[w2.heap.size]? = some (.cells #[.slice A1 c.dst.length c1, .slice A2 outs.length c2] 51 (0, 0)) := by
    rw [← hw3]
    exact heap_alloc_new _ _
  have hb3 : Below w2.heap.size w2 w3 := by
    rw [← hw3]
    exact below_alloc (Below.refl _ _) _
  have hk3 := blk_below HK2.out hb3
  have HB3 : Aside0 (Below w.heap.size w w3) := ⟨HB2.out.trans (below_cut hb3 HB2.out.size)⟩
  have HC13 : Aside0 (Kd.C (Kd.int .u64) w3 A1 c.dst.length c.dst) := ⟨Kd.C_below HC1.out hb3⟩
  have HC23 : Aside0 (Kd.C (Kd.int .u64) w3 A2 outs.length outs) := ⟨Kd.C_below HC2.out hb3⟩
  have HC33 : Aside0 (Kd.C k56 w3 A3 c.mvs.length c.mvs) := ⟨Kd.C_below HC3.out hb3⟩
  have HK3 := Aside0.mk hk3
  have HD3 := Aside0.mk hd3
  have hq0 : w3.cell? ⟨w.heap.size, 0, none⟩ = some (.slice A0_0 l0_0.length c0_0) := (blk_cell hk3 0).trans rfl
  have hq1 : w3.cell? ⟨w.heap.size, 1, none⟩ = some (.slice A0_1 l0_1.length c0_1) := (blk_cell hk3 1).trans rfl
  have HCALL := Aside0.mk (objects_calls w3 A0_0 c0_0 l0_0 A0_1 c0_1 l0_1 (Kd.C_below H0.out HB3.out) C0.out (Kd.C_below H1.out HB3.out) HU.out HV.out)
  clear hw3 hb3 hk3 hd3 HB2 HK2 HC1 HC2 HC3
  go_wp2_with fail
  refine HCALL.out.mono ?_
  clear hq0 hq1
  rintro e w4 (⟨h0, _⟩ | ⟨_, _, v4, rfl, hr4, hb⟩)
  · exact (h0 HE.out).elim
  obtain ⟨A4, c4, rfl, hc4, hC4⟩ := Kd.R_reads hr4
  have HC4 := Aside0.mk hC4
  have HL4 := Aside0.mk hc4
  have HK4 : Aside0 (w4.heap[w.heap.size]? = some (.cells #[.slice A0_0 l0_0.length c0_0, .slice A0_1 l0_1.length c0_1] 51 (0, 0))) := ⟨blk_below HK3.out hb⟩
  have hd4 := blk_below HD3.out hb
  have HD4 := Aside0.mk hd4
  have HB4 : Aside0 (Below w.heap.size w w4) := ⟨HB3.out.trans (below_cut hb HB3.out.size)⟩
  have HC14 : Aside0 (Kd.C (Kd.int .u64) w4 A1 c.dst.length c.dst) := ⟨Kd.C_below HC13.out hb⟩
  have HC24 : Aside0 (Kd.C (Kd.int .u64) w4 A2 outs.length outs) := ⟨Kd.C_below HC23.out hb⟩
  have HC34 : Aside0 (Kd.C k56 w4 A3 c.mvs.length c.mvs) := ⟨Kd.C_below HC33.out hb⟩
  have hq0 : w4.cell? ⟨w2.heap.size, 0, none⟩ = some (.slice A1 c.dst.length c1) := (blk_cell hd4 0).trans rfl
  have hq1 : w4.cell? ⟨w2.heap.size, 1, none⟩ = some (.slice A2 outs.length c2) := (blk_cell hd4 1).trans rfl
  have hu := fin_u64 HH.out HU.out HV.out HF.out
  have HCALL2 := Aside0.mk (objects_calls w4 A1 c1 c.dst A2 c2 outs HC14.out HL1.out HC24.out hu.1 hu.2)
  have HCK : Aside0 (chkE c.dst outs (objF c.dst).1 (objF c.dst).2 = 0) := ⟨by rw [fin_obj HF.out]; exact fin_chk HH.out HU.out HV.out HF.out⟩
  clear hb hr4 hC4 hc4 hd4 hu HCALL HK3 HD3 HB3 HC13 HC23 HC33
  go_wp2_with fail
  refine HCALL2.out.mono ?_
  clear hq0 hq1
  rintro e w5 (⟨h0, _⟩ | ⟨_, _, v5, rfl, hr5, hb⟩)
  · exact (h0 HCK.out).elim
  rw [fin_obj HF.out] at hr5
  obtain ⟨A5, c5, rfl, hc5, hC5⟩ := Kd.R_reads hr5
  have HC5 := Aside0.mk hC5
  have HL5 := Aside0.mk hc5
  have HK5 : Aside0 (w5.heap[w.heap.size]? = some (.cells #[.slice A0_0 l0_0.length c0_0, .slice A0_1 l0_1.length c0_1] 51 (0, 0))) := ⟨blk_below HK4.out hb⟩
  have HD5 := Aside0.mk (blk_below HD4.out hb)
  have HB5 : Aside0 (Below w.heap.size w w5) := ⟨HB4.out.trans (below_cut hb HB4.out.size)⟩
  have HC45 : Aside0 (Kd.C (Kd.int .i64) w5 A4 (objF l0_0).1.length (objF l0_0).1) := ⟨Kd.C_below HC4.out hb⟩
  have HC35 : Aside0 (Kd.C k56 w5 A3 c.mvs.length c.mvs) := ⟨Kd.C_below HC34.out hb⟩
  have hfl := fin_len HH.out HF.out
  have hl1 := HH.out.len
  have hl3 : (objF l0_0).1.length ≤ l0_0.length := objW_len _ _
  have HZ : Aside0 (c.dst.length ≤ l0_0.length ∧ (tos c).length = c.mvs.length ∧ c.mvs.length ≤ (objF l0_0).1.length ∧ (objF l0_0).1.length ≤ 2000) := ⟨by omega⟩
  have HM : Aside0 (∀ m ∈ c.mvs, m.f1 ∈ (objF l0_0).1 ∧ m.f0 ∈ tos c) := ⟨fun m hm => ⟨HF.out.2.1.sub _ (by rw [← fin_from HF.out]; exact List.mem_map.2 ⟨m, hm, rfl⟩), List.mem_map.2 ⟨m, hm, rfl⟩⟩⟩
  generalize (objF l0_0).1 = os at HC45 HL4 HZ HM ⊢
  generalize tos c = ts at HC5 HL5 HZ HM ⊢
  generalize c.mvs = ms at HC35 HZ HM ⊢
  clear hb hr5 hC5 hc5 hfl hl1 hl3 HCALL2 HCK HK4 HD4 HB4 HC4 HC34 HC14 HC24
  go_wp2_with fail
  go_loopg [40] ms.length (fun kq v40 W => ∃ i : Nat, v40 = .int .i64 (i : Int) ∧ Aside0 (i ≤ ms.length ∧ kq = ms.length - i) ∧ Aside0 (Below w5.heap.size w5 W))
  case atStart => exact ⟨0, rfl, ⟨Nat.zero_le _, by omega⟩, ⟨Below.refl _ _⟩⟩
  case round =>
    obtain ⟨i, rfl, HIQ, HB⟩ := hrel
    by_cases hlt : i < ms.length
    · have hi0 : (0 : Int) ≤ (i : Int) := by omega
      have hi1 : (i : Int) < (ms.length : Int) := by omega
      obtain ⟨ad, rfl, hx0, hx1⟩ := at_move (Kd.C_below HC35.out HB.out) i hlt
      have hge : ms.getD i z56 = ms[i] := by rw [List.getD_eq_getElem?_getD, List.getElem?_eq_getElem hlt]; rfl
      rw [hge] at hx0 hx1
      have hin := HM.out _ (List.getElem_mem hlt)
      have hdec : decide ((i : Int) < (ms.length : Int)) = true := decide_eq_true hi1
      have hdec2 : decide (i < ms.length) = true := decide_eq_true hlt
      have HLT := Aside0.mk hlt
      generalize ms[i] = p at hx0 hx1 hin
      have HCA : Aside0 (∀ W, Below w5.heap.size w5 W → Calls Try.prog 18 #[.slice A4 os.length c4, .int .i64 p.f1] W fun e w' => e = .returned (.bool true) ∧ Drawn0 W w') := ⟨fun W hW => backstitchref3_Has_int.calls (os.length + 1) A4 c4 os p.f1 true W (Kd.C_below HC45.out hW) HL4.out (has_in (by have := HZ.out; omega) hin.1)⟩
      have HCB : Aside0 (∀ W, Below w5.heap.size w5 W → Calls Try.prog 18 #[.slice A5 ts.length c5, .int .i64 p.f0] W fun e w' => e = .returned (.bool true) ∧ Drawn0 W w') := ⟨fun W hW => backstitchref3_Has_int.calls (ts.length + 1) A5 c5 ts p.f0 true W (Kd.C_below HC5.out hW) HL5.out (has_in (by have := HZ.out; omega) hin.2)⟩
      have hdx := heap_alloc_new wr (Obj.cells #[.int .i64 p.f0, .int .i64 p.f1] 56)
      have hbx := below_step HB.out (below_alloc (Below.refl wr.heap.size wr) (Obj.cells #[.int .i64 p.f0, .int .i64 p.f1] 56))
      have HDX := Aside0.mk hdx
      have HBX := Aside0.mk hbx
      clear hlt hge hin hdx hbx
      go_wp2_with fail
      refine (HCA.out _ HBX.out).mono ?_
      rintro e w6 ⟨rfl, hd⟩
      have HD6 := Aside0.mk (blk_below HDX.out hd.below)
      have HB6 := Aside0.mk (below_step HBX.out hd.below)
      have hcc : w6.cell? ⟨wr.heap.size, 0, none⟩ = some (.int .i64 p.f0) := (blk_cell HD6.out 0).trans rfl
      clear hd hx0 hx1 hdec hdec2 hi0 hi1 HDX HBX
      go_wp2_with fail
      refine (HCB.out _ HB6.out).mono ?_
      rintro e w7 ⟨rfl, hd⟩
      have HB7 := Aside0.mk (below_step HB6.out hd.below)
      clear hd hcc
      go_wp2
      go_roundg (ms.length - (i + 1))
      case measure => have := HIQ.out; have := HLT.out; omega
      case rel => exact ⟨i + 1, by first | rfl | (have := HLT.out; have := HZ.out; rw [show wrap64 ((i : Int) + 1) = ((i + 1 : Nat) : Int) from by unfold wrap64; omega]), ⟨by have := HLT.out; omega, rfl⟩, HB7⟩
    · have e_ : i = ms.length := by have := HIQ.out; omega
      subst e_
      have hdec : decide ((ms.length : Int) < (ms.length : Int)) = false := decide_eq_false (by omega)
      have hdec2 : decide (ms.length < ms.length) = false := decide_eq_false hlt
      clear hlt HIQ
      go_wp2_with fail
      refine (hauled_calls _).mono ?_
      rintro e w8 ⟨rfl, hb⟩
      have hb58 := below_step HB.out hb
      have HB8 : Aside0 (Below w.heap.size w w8) := ⟨HB5.out.trans (below_cut hb58 HB5.out.size)⟩
      have hq0 : w8.cell? ⟨w.heap.size, 0, none⟩ = some (.slice A0_0 l0_0.length c0_0) := (blk_cell (blk_below HK5.out hb58) 0).trans rfl
      have hq1 : w8.cell? ⟨w2.heap.size, 0, none⟩ = some (.slice A1 c.dst.length c1) := (blk_cell (blk_below HD5.out hb58) 0).trans rfl
      obtain ⟨z1, z2, z3, z4⟩ := HZ.out
      have y1 : decide ((c.dst.length : Int) ≤ (l0_0.length : Int)) = true := decide_eq_true (by omega)
      have y1b : decide (c.dst.length ≤ l0_0.length) = true := decide_eq_true z1
      have y2 : ((ts.length : Int) == (ms.length : Int)) = true := by rw [z2]; simp
      have y2b : (ts.length == ms.length) = true := by rw [z2]; simp
      have y3 : decide ((ms.length : Int) ≤ (os.length : Int)) = true := decide_eq_true (by omega)
      have y3b : decide (ms.length ≤ os.length) = true := decide_eq_true z3
      clear hb hb58 hdec hdec2
      go_wp2
      go_ret
      exact ⟨rfl, HB8.out⟩
end Go.Proofs.Ytoleplbmkdhgeaa.PQ
