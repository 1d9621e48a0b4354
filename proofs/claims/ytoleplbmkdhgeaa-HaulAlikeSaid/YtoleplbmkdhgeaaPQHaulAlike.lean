/- The law function HaulAlike: what it answers. -/
import Derived.Test.YtoleplbmkdhgeaaHaulMo
import Derived.Test.YtoleplbmkdhgeaaHaulOb
import Derived.Test.YtoleplbmkdhgeaaHaulAk
import Derived.Deep.DeepCutAuto
set_option linter.unusedVariables false
set_option linter.unusedSimpArgs false
namespace Go.Proofs.Ytoleplbmkdhgeaa.PQ
open Go.RowKit Go.Proofs.YtoleplbmkdhgeaaW.PrintWords Go.Proofs.YtoleplbmkdhgeaaW.PrintLast Go.Proofs.YtoleplbmkdhgeaaW.PrintMore Go.Proofs.Ytoleplbmkdhgeaa.Hnd Go.Proofs.Ytoleplbmkdhgeaa.Hal

open Classical in
noncomputable def backstitchkeep3_HaulAlike.f (k : Nat) (l0_0 l0_1 : List Int) : Option Bool := if (∀ x ∈ l0_0, U64 x) ∧ (∀ x ∈ l0_1, U64 x) then some true else none
set_option maxHeartbeats 16000000 in
set_option maxRecDepth 100000 in
theorem backstitchkeep3_HaulAlike.calls (k : Nat) (A0_0 : Option Addr) (c0_0 : Nat) (l0_0 : List Int) (A0_1 : Option Addr) (c0_1 : Nat) (l0_1 : List Int) (r : Bool) (w : World)
    (hr0_0 : Kd.C (Kd.int .u64) w A0_0 l0_0.length l0_0) (hc0_0 : l0_0.length ≤ c0_0) (hr0_1 : Kd.C (Kd.int .u64) w A0_1 l0_1.length l0_1) (hc0_1 : l0_1.length ≤ c0_1) (h : backstitchkeep3_HaulAlike.f k l0_0 l0_1 = some r) :
    Calls Try.prog 9 #[.agg #[.slice A0_0 l0_0.length c0_0, .slice A0_1 l0_1.length c0_1]] w fun e w' => e = .returned (.bool r) ∧ Below w.heap.size w w' := by
  unfold backstitchkeep3_HaulAlike.f at h
  have hok : (∀ x ∈ l0_0, U64 x) ∧ (∀ x ∈ l0_1, U64 x) := by
    by_cases hx : (∀ x ∈ l0_0, U64 x) ∧ (∀ x ∈ l0_1, U64 x)
    · exact hx
    · rw [if_neg hx] at h; exact absurd h (by simp)
  rw [if_pos hok] at h
  obtain rfl := Option.some.inj h
  have H0 := Aside0.mk hr0_0
  have H1 := Aside0.mk hr0_1
  have C0 := Aside0.mk hc0_0
  have C1 := Aside0.mk hc0_1
  have HU := Aside0.mk hok.1
  have HV := Aside0.mk hok.2
  have hb0 : Below w.heap.size w (w.alloc (Obj.cells #[.slice A0_0 l0_0.length c0_0, .slice A0_1 l0_1.length c0_1] 51)) := below_alloc (Below.refl _ _) _
  have hk0 := heap_alloc_new w (Obj.cells #[.slice A0_0 l0_0.length c0_0, .slice A0_1 l0_1.length c0_1] 51)
  have HB0 := Aside0.mk hb0
  have HK0 := Aside0.mk hk0
  clear h hok hr0_0 hr0_1 hc0_0 hc0_1 hb0 hk0
  go_enter Try.func9, Try.ntmps9
  go_wp2_with fail
  refine (hauled_calls _).mono ?_
  rintro e w1 ⟨rfl, hb⟩
  have hk1 := blk_below HK0.out hb
  have HK1 := Aside0.mk hk1
  have HB1 : Aside0 (Below w.heap.size w w1) := ⟨below_step HB0.out hb⟩
  have hq0 : w1.cell? ⟨w.heap.size, 0, none⟩ = some (.slice A0_0 l0_0.length c0_0) := (blk_cell hk1 0).trans rfl
  have hq1 : w1.cell? ⟨w.heap.size, 1, none⟩ = some (.slice A0_1 l0_1.length c0_1) := (blk_cell hk1 1).trans rfl
  clear hb hk1 HB0 HK0
  go_wp2_with fail
  refine (collect_h w1 A0_0 c0_0 l0_0 A0_1 c0_1 l0_1 (Kd.C_below H0.out HB1.out) C0.out (Kd.C_below H1.out HB1.out) HU.out HV.out).mono ?_
  clear hq0 hq1
  rintro e w2 (⟨h0, rfl, hb⟩ | ⟨h0, hh, c, fs, outs, vto, vouts, vold, rfl, hF, hr1, hr2, hr3, hb⟩)
  · have HB2 : Aside0 (Below w.heap.size w w2) := ⟨HB1.out.trans (below_cut hb HB1.out.size)⟩
    generalize chkE l0_0 l0_1 (objF l0_0).1 (objF l0_0).2 = E at h0 ⊢
    have hd : (E != 0) = true := by simp [h0]
    have hd2 : decide (E = 0) = false := decide_eq_false h0
    clear hb h0
    go_upto_region 4 with fail
    generalize hw3 : World.alloc _ _ = w3
    have hd3 : w3.heap[w2.heap.size]? = some (.cells #[.slice none 0 0, .slice none 0 0] 51 (0, 0)) := by
      rw [← hw3]
      exact heap_alloc_new _ _
    have hb3 : Below w2.heap.size w2 w3 := by
      rw [← hw3]
      exact below_alloc (Below.refl _ _) _
    have HD3 := Aside0.mk hd3
    have HB3 : Aside0 (Below w.heap.size w w3) := ⟨HB2.out.trans (below_cut hb3 HB2.out.size)⟩
    clear hw3 hd3 hb3
    go_wp2_with fail
    refine (hauled_calls _).mono ?_
    rintro e w4 ⟨rfl, hb⟩
    have HB4 : Aside0 (Below w.heap.size w w4) := ⟨below_step HB3.out hb⟩
    have hd4 := blk_below HD3.out hb
    have hq0 : w4.cell? ⟨w2.heap.size, 0, none⟩ = some (.slice none 0 0) := (blk_cell hd4 0).trans rfl
    have hq1 : w4.cell? ⟨w2.heap.size, 1, none⟩ = some (.slice none 0 0) := (blk_cell hd4 1).trans rfl
    clear hb hd4
    go_wp2
    go_ret
    exact ⟨rfl, HB4.out⟩
  have HH := Aside0.mk hh
  have HF := Aside0.mk hF
  obtain ⟨A1, c1, rfl, hc1, hC1⟩ := Kd.R_reads hr1
  obtain ⟨A2, c2, rfl, hc2, hC2⟩ := Kd.R_reads hr2
  obtain ⟨A3, c3, rfl, hc3, hC3⟩ := Kd.R_reads hr3
  have HC1 := Aside0.mk hC1
  have HC2 := Aside0.mk hC2
  have HC3 := Aside0.mk hC3
  have HL1 := Aside0.mk hc1
  have HL2 := Aside0.mk hc2
  have HL3 := Aside0.mk hc3
  have HK2 : Aside0 (w2.heap[w.heap.size]? = some (.cells #[.slice A0_0 l0_0.length c0_0, .slice A0_1 l0_1.length c0_1] 51 (0, 0))) := ⟨blk_below HK1.out hb⟩
  have HB2 : Aside0 (Below w.heap.size w w2) := ⟨HB1.out.trans (below_cut hb HB1.out.size)⟩
  clear h0 hb hr1 hr2 hr3 hC1 hC2 hC3 hc1 hc2 hc3 hh hF HB1 HK1
  go_upto_region 4 with fail
  generalize hw3 : World.alloc _ _ = w3
  have hd3 : w3.heap[w2.heap.size]? = some (.cells #[.slice A1 c.dst.length c1, .slice A2 outs.length c2] 51 (0, 0)) := by
    rw [← hw3]
    exact heap_alloc_new _ _
  have hb3 : Below w2.heap.size w2 w3 := by
    rw [← hw3]
    exact below_alloc (Below.refl _ _) _
  have HK3 := Aside0.mk (blk_below HK2.out hb3)
  have HD3 := Aside0.mk hd3
  have HB3 : Aside0 (Below w.heap.size w w3) := ⟨HB2.out.trans (below_cut hb3 HB2.out.size)⟩
  have HC13 : Aside0 (Kd.C (Kd.int .u64) w3 A1 c.dst.length c.dst) := ⟨Kd.C_below HC1.out hb3⟩
  have HC23 : Aside0 (Kd.C (Kd.int .u64) w3 A2 outs.length outs) := ⟨Kd.C_below HC2.out hb3⟩
  have HC33 : Aside0 (Kd.C k56 w3 A3 c.mvs.length c.mvs) := ⟨Kd.C_below HC3.out hb3⟩
  have H03 : Aside0 (Kd.C (Kd.int .u64) w3 A0_0 l0_0.length l0_0) := ⟨Kd.C_below H0.out HB3.out⟩
  have H13 : Aside0 (Kd.C (Kd.int .u64) w3 A0_1 l0_1.length l0_1) := ⟨Kd.C_below H1.out HB3.out⟩
  obtain ⟨at_, t0, t1, ts⟩ := fin_steps HH.out HU.out HF.out
  have HT0 := Aside0.mk t0
  have HT1 := Aside0.mk t1
  have HTS := Aside0.mk ts
  have hrt := fin_roots HH.out HV.out HF.out
  have HRL := Aside0.mk hrt.1
  have HRT := Aside0.mk hrt.2
  have hu := fin_u64 HH.out HU.out HV.out HF.out
  have HGU := Aside0.mk hu.1
  have HGV := Aside0.mk hu.2
  have HCK : Aside0 (chkE c.dst outs (objF c.dst).1 (objF c.dst).2 = 0) := ⟨by rw [fin_obj HF.out]; exact fin_chk HH.out HU.out HV.out HF.out⟩
  have hfl := fin_len HH.out HF.out
  have hl1 := HH.out.len
  have hl3 : (objF l0_0).1.length ≤ l0_0.length := objW_len _ _
  have HZ : Aside0 (c.mvs.length ≤ 2000 ∧ c.dst.length ≤ 2000 ∧ l0_0.length ≤ 2000 ∧ l0_1.length ≤ 100) := ⟨by have := HH.out.rlen; omega⟩
  generalize c.mvs = ms at HC33 HL3 HT1 HTS HRT HZ ⊢
  generalize c.dst = ds at HC13 HL1 HT1 HTS HGU HCK HZ hd3 HD3 ⊢
  clear hw3 hb3 HB2 HK2 HC1 HC2 HC3 t0 t1 ts hrt hu hfl hl1 hl3 hd3 HF
  go_wp2_with fail
  go_loopg [6, 38] ms.length (fun kq v6 v38 W => ∃ i : Nat, v38 = .int .i64 (i : Int) ∧ v6 = .int .i64 ((at_ i : Nat) : Int) ∧ Aside0 (i ≤ ms.length ∧ kq = ms.length - i) ∧ Aside0 (Below w3.heap.size w3 W))
  case atStart => exact ⟨0, rfl, by rw [HT0.out]; rfl, ⟨Nat.zero_le _, by omega⟩, ⟨Below.refl _ _⟩⟩
  case round =>
    obtain ⟨i, rfl, rfl, HIQ, HB⟩ := hrel
    by_cases hlt : i < ms.length
    · have hi0 : (0 : Int) ≤ (i : Int) := by omega
      have hi1 : (i : Int) < (ms.length : Int) := by omega
      obtain ⟨ad, rfl, hx0, hx1⟩ := at_move (Kd.C_below HC33.out HB.out) i hlt
      have hge : ms.getD i z56 = ms[i] := by rw [List.getD_eq_getElem?_getD, List.getElem?_eq_getElem hlt]; rfl
      rw [hge] at hx0 hx1
      obtain ⟨hst, hnx⟩ := HTS.out i hlt
      have hdec : decide ((i : Int) < (ms.length : Int)) = true := decide_eq_true hi1
      have hdec2 : decide (i < ms.length) = true := decide_eq_true hlt
      have HLT := Aside0.mk hlt
      generalize ms[i] = p at hx0 hx1 hst hnx
      obtain ⟨t_, p_⟩ := p
      obtain ⟨s1, s2, s3, s4, s5, s6⟩ := hst
      simp only at hx0 hx1 hnx s1 s2 s3 s4 s5 s6
      obtain ⟨q, rfl⟩ := Int.eq_ofNat_of_zero_le s2
      rw [Int.toNat_natCast] at s3 s5 s6
      subst s1
      have hyu : U64 (l0_0.getD q 0) := HU.out _ (getD_mem (by omega))
      have hsz : szN l0_0 (q : Int) = longN (l0_0.getD q 0) := by unfold szN; rw [Int.toNat_natCast]
      have hrd : rd l0_0 (q : Int) = l0_0.getD q 0 := by unfold rd; simp
      have hn : wrap64 (wrap64 (Int.tmod (l0_0.getD q 0) 4294967296) + 1) = ((szN l0_0 (q : Int) + 1 : Nat) : Int) := by
        rw [Int.tmod_eq_emod_of_nonneg hyu.1, hsz]
        obtain ⟨y0, y1⟩ := hyu
        unfold wrap64 longN; omega
      have hrd2 : rd ds ((at_ i : Nat) : Int) = l0_0.getD q 0 := by rw [← s5]; unfold rd; simp
      generalize szN l0_0 (q : Int) = lg at hnx s3 s4 s6 hn
      generalize l0_0.getD q 0 = y at hrd hrd2 hn
      have HNX := Aside0.mk hnx
      generalize at_ i = a at s4 s6 HNX hx0 hx1 hrd2 ⊢
      have HS3 := Aside0.mk s3
      have HS4 := Aside0.mk s4
      have HS6 := Aside0.mk s6
      have HN := Aside0.mk hn
      have HRD := Aside0.mk hrd
      have HRD2 := Aside0.mk hrd2
      clear hlt hge hnx s2 s3 s4 s5 s6 hyu hsz hrd hrd2 hn
      go_upto_region 10 with fail
      generalize hwx : World.alloc _ _ = wx
      have hdx : wx.heap[wr.heap.size]? = some (.cells #[.int .i64 (a : Int), .int .i64 (q : Int)] 56 (0, 0)) := by
        rw [← hwx]
        exact heap_alloc_new _ _
      have hbx : Below wr.heap.size wr wx := by
        rw [← hwx]
        exact below_alloc (Below.refl _ _) _
      have HDX := Aside0.mk hdx
      have HBX : Aside0 (Below w3.heap.size w3 wx) := ⟨below_step HB.out hbx⟩
      obtain ⟨wo, rfl⟩ : ∃ wo : World, wo = wr := ⟨_, rfl⟩
      have hp1 : wx.cell? ⟨wo.heap.size, 1, none⟩ = some (.int .i64 (q : Int)) := (blk_cell HDX.out 1).trans rfl
      have hp0 : wx.cell? ⟨wo.heap.size, 0, none⟩ = some (.int .i64 (a : Int)) := (blk_cell HDX.out 0).trans rfl
      have hq0 : wx.cell? ⟨w.heap.size, 0, none⟩ = some (.slice A0_0 l0_0.length c0_0) := (blk_cell (blk_below HK3.out HBX.out) 0).trans rfl
      have hq1 : wx.cell? ⟨w2.heap.size, 0, none⟩ = some (.slice A1 ds.length c1) := (blk_cell (blk_below HD3.out HBX.out) 0).trans rfl
      have hqi0 : (0 : Int) ≤ (q : Int) := by omega
      have hqi1 : (q : Int) < (l0_0.length : Int) := by have := HS3.out; omega
      have hai0 : (0 : Int) ≤ (a : Int) := by omega
      have hai1 : (a : Int) < (ds.length : Int) := by have := HS4.out; omega
      obtain ⟨ad0, e0, hy⟩ := Kd.at_int (Kd.C_below H03.out HBX.out) (q : Int) hqi0 hqi1
      obtain ⟨ad1, e1, hy1⟩ := Kd.at_int (Kd.C_below HC13.out HBX.out) (a : Int) hai0 hai1
      rw [HRD.out, Int.toNat_natCast] at hy
      rw [HRD2.out, Int.toNat_natCast] at hy1
      rw [e0] at hq0
      rw [e1] at hq1
      clear hwx hdx hbx hx0 hx1 hdec hdec2 hi0 hi1
      go_upto_region 11 with fail
      rw [HN.out]
      obtain ⟨n, hn⟩ : ∃ n, n = lg + 1 := ⟨_, rfl⟩
      rw [← hn]
      have HNL := Aside0.mk hn
      have hd1 : decide ((ds.length : Int) < wrap64 ((a : Int) + (n : Int))) = false := decide_eq_false (by have := HS4.out; have := HZ.out; unfold wrap64; omega)
      clear hn
      have hd2 : ((a : Int) != (a : Int)) = false := by simp
      have hd3 : (y != y) = false := by simp
      refine start_ (n := 27) (S := fun w' => w'.cell? ⟨wo.heap.size, 1, none⟩ = some (.int .i64 (q : Int)) ∧ w'.cell? ⟨wo.heap.size, 0, none⟩ = some (.int .i64 (a : Int)) ∧ w'.cell? ⟨w.heap.size, 0, none⟩ = some (.slice (some ad0) l0_0.length c0_0) ∧ w'.cell? ⟨w2.heap.size, 0, none⟩ = some (.slice (some ad1) ds.length c1) ∧ w'.cell? (ad0.add q) = some (.int .u64 y) ∧ w'.cell? (ad1.add a) = some (.int .u64 y)) (ds := []) #[false, false, false, false, false, false, false, false, false, false, false, false, false, false, false, false, false, false, false, false, false, false, false, false, false, false, false] (by kernel_rfl) rfl rfl ⟨hp1, hp0, hq0, hq1, hy, hy1⟩ (fun hHeld => ?_)
      refine pure_ (i := 0) (N := some 51) (v := ?_) (a' := ?_) #[true, false, false, false, false, false, false, false, false, false, false, false, false, false, false, false, false, false, false, false, false, false, false, false, false, false, false] rfl rfl (by kernel_rfl) (fun _ _ _ h => h) (Or.inl ⟨by rfl, ?_⟩) ?_ ?_
      rotate_left
      · intro w'
        go_simp
        with_reducible rfl
      rotate_left
      · simp only [Act.put, List.setIfInBounds_toArray, List.set_cons_zero, List.set_cons_succ, i64_w, i32_w]
        rfl
      refine pure_ (i := 2) (N := some 53) (v := ?_) (a' := ?_) #[true, false, true, false, false, false, false, false, false, false, false, false, false, false, false, false, false, false, false, false, false, false, false, false, false, false, false] rfl rfl (by kernel_rfl) (fun _ _ _ h => h) (Or.inl ⟨by rfl, ?_⟩) ?_ ?_
      rotate_left
      · intro w'
        go_simp
        with_reducible rfl
      rotate_left
      · simp only [Act.put, List.setIfInBounds_toArray, List.set_cons_zero, List.set_cons_succ, i64_w, i32_w]
        rfl
      refine take_ (i := 1) (N := some 52) (v := ?_) (a' := ?_) #[true, true, true, false, false, false, false, false, false, false, false, false, false, false, false, false, false, false, false, false, false, false, false, false, false, false, false] rfl rfl (by kernel_rfl) (fun _ _ _ h => h) (Or.inl ⟨by rfl, ?_⟩) hHeld ?_ ?_
      rotate_left
      · rintro w' ⟨s0, s1, s2, s3, s4, s5⟩
        go_simp
        with_reducible rfl
      rotate_left
      · simp only [Act.put, List.setIfInBounds_toArray, List.set_cons_zero, List.set_cons_succ, i64_w, i32_w]
        rfl
      refine pure_ (i := 3) (N := some 54) (v := ?_) (a' := ?_) #[true, true, true, true, false, false, false, false, false, false, false, false, false, false, false, false, false, false, false, false, false, false, false, false, false, false, false] rfl rfl (by kernel_rfl) (fun _ _ _ h => h) (Or.inl ⟨by rfl, ?_⟩) ?_ ?_
      rotate_left
      · intro w'
        go_simp
        with_reducible rfl
      rotate_left
      · simp only [Act.put, List.setIfInBounds_toArray, List.set_cons_zero, List.set_cons_succ, i64_w, i32_w]
        rfl
      refine pure_ (i := 4) (N := some 55) (v := ?_) (a' := ?_) #[true, true, true, true, true, false, false, false, false, false, false, false, false, false, false, false, false, false, false, false, false, false, false, false, false, false, false] rfl rfl (by kernel_rfl) (fun _ _ _ h => h) (Or.inl ⟨by rfl, ?_⟩) ?_ ?_
      rotate_left
      · intro w'
        go_simp
        with_reducible rfl
      rotate_left
      · simp only [Act.put, List.setIfInBounds_toArray, List.set_cons_zero, List.set_cons_succ, i64_w, i32_w]
        rfl
      refine pure_ (i := 5) (N := some 56) (v := ?_) (a' := ?_) #[true, true, true, true, true, true, false, false, false, false, false, false, false, false, false, false, false, false, false, false, false, false, false, false, false, false, false] rfl rfl (by kernel_rfl) (fun _ _ _ h => h) (Or.inl ⟨by rfl, ?_⟩) ?_ ?_
      rotate_left
      · intro w'
        go_simp
        with_reducible rfl
      rotate_left
      · simp only [Act.put, List.setIfInBounds_toArray, List.set_cons_zero, List.set_cons_succ, i64_w, i32_w]
        rfl
      refine pure_ (i := 6) (N := some 57) (v := ?_) (a' := ?_) #[true, true, true, true, true, true, true, false, false, false, false, false, false, false, false, false, false, false, false, false, false, false, false, false, false, false, false] rfl rfl (by kernel_rfl) (fun _ _ _ h => h) (Or.inl ⟨by rfl, ?_⟩) ?_ ?_
      rotate_left
      · intro w'
        go_simp
        with_reducible rfl
      rotate_left
      · simp only [Act.put, List.setIfInBounds_toArray, List.set_cons_zero, List.set_cons_succ, i64_w, i32_w]
        rfl
      refine pure_ (i := 7) (N := some 58) (v := ?_) (a' := ?_) #[true, true, true, true, true, true, true, true, false, false, false, false, false, false, false, false, false, false, false, false, false, false, false, false, false, false, false] rfl rfl (by kernel_rfl) (fun _ _ _ h => h) (Or.inl ⟨by rfl, ?_⟩) ?_ ?_
      rotate_left
      · intro w'
        go_simp
        with_reducible rfl
      rotate_left
      · simp only [Act.put, List.setIfInBounds_toArray, List.set_cons_zero, List.set_cons_succ, i64_w, i32_w]
        rfl
      refine pure_ (i := 8) (N := some 59) (v := ?_) (a' := ?_) #[true, true, true, true, true, true, true, true, true, false, false, false, false, false, false, false, false, false, false, false, false, false, false, false, false, false, false] rfl rfl (by kernel_rfl) (fun _ _ _ h => h) (Or.inl ⟨by rfl, ?_⟩) ?_ ?_
      rotate_left
      · intro w'
        go_simp
        with_reducible rfl
      rotate_left
      · simp only [Act.put, List.setIfInBounds_toArray, List.set_cons_zero, List.set_cons_succ, i64_w, i32_w]
        rfl
      refine take_ (i := 9) (N := some 60) (v := ?_) (a' := ?_) #[true, true, true, true, true, true, true, true, true, true, false, false, false, false, false, false, false, false, false, false, false, false, false, false, false, false, false] rfl rfl (by kernel_rfl) (fun _ _ _ h => h) (Or.inl ⟨by rfl, ?_⟩) hHeld ?_ ?_
      rotate_left
      · rintro w' ⟨s0, s1, s2, s3, s4, s5⟩
        go_simp
        with_reducible rfl
      rotate_left
      · simp only [Act.put, List.setIfInBounds_toArray, List.set_cons_zero, List.set_cons_succ, i64_w, i32_w]
        rfl
      refine pure_ (i := 10) (N := some 61) (v := ?_) (a' := ?_) #[true, true, true, true, true, true, true, true, true, true, true, false, false, false, false, false, false, false, false, false, false, false, false, false, false, false, false] rfl rfl (by kernel_rfl) (fun _ _ _ h => h) (Or.inl ⟨by rfl, ?_⟩) ?_ ?_
      rotate_left
      · intro w'
        go_simp
        with_reducible rfl
      rotate_left
      · simp only [Act.put, List.setIfInBounds_toArray, List.set_cons_zero, List.set_cons_succ, i64_w, i32_w]
        rfl
      refine pure_ (i := 11) (N := some 62) (v := ?_) (a' := ?_) #[true, true, true, true, true, true, true, true, true, true, true, true, false, false, false, false, false, false, false, false, false, false, false, false, false, false, false] rfl rfl (by kernel_rfl) (fun _ _ _ h => h) (Or.inl ⟨by rfl, ?_⟩) ?_ ?_
      rotate_left
      · intro w'
        go_simp
        with_reducible rfl
      rotate_left
      · simp only [Act.put, List.setIfInBounds_toArray, List.set_cons_zero, List.set_cons_succ, i64_w, i32_w]
        rfl
      refine pure_ (i := 12) (N := some 63) (v := ?_) (a' := ?_) #[true, true, true, true, true, true, true, true, true, true, true, true, true, false, false, false, false, false, false, false, false, false, false, false, false, false, false] rfl rfl (by kernel_rfl) (fun _ _ _ h => h) (Or.inl ⟨by rfl, ?_⟩) ?_ ?_
      rotate_left
      · intro w'
        go_simp
        with_reducible rfl
      rotate_left
      · simp only [Act.put, List.setIfInBounds_toArray, List.set_cons_zero, List.set_cons_succ, i64_w, i32_w]
        rfl
      refine pure_ (i := 13) (N := some 64) (v := ?_) (a' := ?_) #[true, true, true, true, true, true, true, true, true, true, true, true, true, true, false, false, false, false, false, false, false, false, false, false, false, false, false] rfl rfl (by kernel_rfl) (fun _ _ _ h => h) (Or.inl ⟨by rfl, ?_⟩) ?_ ?_
      rotate_left
      · intro w'
        go_simp
        with_reducible rfl
      rotate_left
      · simp only [Act.put, List.setIfInBounds_toArray, List.set_cons_zero, List.set_cons_succ, i64_w, i32_w]
        rfl
      refine pure_ (i := 14) (N := some 65) (v := ?_) (a' := ?_) #[true, true, true, true, true, true, true, true, true, true, true, true, true, true, true, false, false, false, false, false, false, false, false, false, false, false, false] rfl rfl (by kernel_rfl) (fun _ _ _ h => h) (Or.inl ⟨by rfl, ?_⟩) ?_ ?_
      rotate_left
      · intro w'
        go_simp
        with_reducible rfl
      rotate_left
      · simp only [Act.put, List.setIfInBounds_toArray, List.set_cons_zero, List.set_cons_succ, i64_w, i32_w]
        rfl
      refine pure_ (i := 16) (N := some 67) (v := ?_) (a' := ?_) #[true, true, true, true, true, true, true, true, true, true, true, true, true, true, true, false, true, false, false, false, false, false, false, false, false, false, false] rfl rfl (by kernel_rfl) (fun _ _ _ h => h) (Or.inl ⟨by rfl, ?_⟩) ?_ ?_
      rotate_left
      · intro w'
        go_simp
        with_reducible rfl
      rotate_left
      · simp only [Act.put, List.setIfInBounds_toArray, List.set_cons_zero, List.set_cons_succ, i64_w, i32_w]
        rfl
      refine pure_ (i := 19) (N := some 70) (v := ?_) (a' := ?_) #[true, true, true, true, true, true, true, true, true, true, true, true, true, true, true, false, true, false, false, true, false, false, false, false, false, false, false] rfl rfl (by kernel_rfl) (fun _ _ _ h => h) (Or.inl ⟨by rfl, ?_⟩) ?_ ?_
      rotate_left
      · intro w'
        go_simp
        with_reducible rfl
      rotate_left
      · simp only [Act.put, List.setIfInBounds_toArray, List.set_cons_zero, List.set_cons_succ, i64_w, i32_w]
        rfl
      refine pure_ (i := 21) (N := some 72) (v := ?_) (a' := ?_) #[true, true, true, true, true, true, true, true, true, true, true, true, true, true, true, false, true, false, false, true, false, true, false, false, false, false, false] rfl rfl (by kernel_rfl) (fun _ _ _ h => h) (Or.inl ⟨by rfl, ?_⟩) ?_ ?_
      rotate_left
      · intro w'
        go_simp
        with_reducible rfl
      rotate_left
      · simp only [Act.put, List.setIfInBounds_toArray, List.set_cons_zero, List.set_cons_succ, i64_w, i32_w]
        rfl
      refine take_ (i := 15) (N := some 66) (v := ?_) (a' := ?_) #[true, true, true, true, true, true, true, true, true, true, true, true, true, true, true, true, true, false, false, true, false, true, false, false, false, false, false] rfl rfl (by kernel_rfl) (fun _ _ _ h => h) (Or.inl ⟨by rfl, ?_⟩) hHeld ?_ ?_
      rotate_left
      · rintro w' ⟨s0, s1, s2, s3, s4, s5⟩
        go_simp
        with_reducible rfl
      rotate_left
      · simp only [Act.put, List.setIfInBounds_toArray, List.set_cons_zero, List.set_cons_succ, i64_w, i32_w]
        rfl
      refine pure_ (i := 17) (N := some 68) (v := ?_) (a' := ?_) #[true, true, true, true, true, true, true, true, true, true, true, true, true, true, true, true, true, true, false, true, false, true, false, false, false, false, false] rfl rfl (by kernel_rfl) (fun _ _ _ h => h) (Or.inl ⟨by rfl, ?_⟩) ?_ ?_
      rotate_left
      · intro w'
        go_simp
        with_reducible rfl
      rotate_left
      · simp only [Act.put, List.setIfInBounds_toArray, List.set_cons_zero, List.set_cons_succ, i64_w, i32_w]
        rfl
      refine take_ (i := 18) (N := some 69) (v := ?_) (a' := ?_) #[true, true, true, true, true, true, true, true, true, true, true, true, true, true, true, true, true, true, true, true, false, true, false, false, false, false, false] rfl rfl (by kernel_rfl) (fun _ _ _ h => h) (Or.inl ⟨by rfl, ?_⟩) hHeld ?_ ?_
      rotate_left
      · rintro w' ⟨s0, s1, s2, s3, s4, s5⟩
        go_simp
        with_reducible rfl
      rotate_left
      · simp only [Act.put, List.setIfInBounds_toArray, List.set_cons_zero, List.set_cons_succ, i64_w, i32_w]
        rfl
      refine take_ (i := 20) (N := some 71) (v := ?_) (a' := ?_) #[true, true, true, true, true, true, true, true, true, true, true, true, true, true, true, true, true, true, true, true, true, true, false, false, false, false, false] rfl rfl (by kernel_rfl) (fun _ _ _ h => h) (Or.inl ⟨by rfl, ?_⟩) hHeld ?_ ?_
      rotate_left
      · rintro w' ⟨s0, s1, s2, s3, s4, s5⟩
        go_simp
        with_reducible rfl
      rotate_left
      · simp only [Act.put, List.setIfInBounds_toArray, List.set_cons_zero, List.set_cons_succ, i64_w, i32_w]
        rfl
      refine take_ (i := 22) (N := some 73) (v := ?_) (a' := ?_) #[true, true, true, true, true, true, true, true, true, true, true, true, true, true, true, true, true, true, true, true, true, true, true, false, false, false, false] rfl rfl (by kernel_rfl) (fun _ _ _ h => h) (Or.inl ⟨by rfl, ?_⟩) hHeld ?_ ?_
      rotate_left
      · rintro w' ⟨s0, s1, s2, s3, s4, s5⟩
        go_simp
        with_reducible rfl
      rotate_left
      · simp only [Act.put, List.setIfInBounds_toArray, List.set_cons_zero, List.set_cons_succ, i64_w, i32_w]
        rfl
      refine pure_ (i := 23) (N := some 74) (v := ?_) (a' := ?_) #[true, true, true, true, true, true, true, true, true, true, true, true, true, true, true, true, true, true, true, true, true, true, true, true, false, false, false] rfl rfl (by kernel_rfl) (fun _ _ _ h => h) (Or.inl ⟨by rfl, ?_⟩) ?_ ?_
      rotate_left
      · intro w'
        go_simp
        with_reducible rfl
      rotate_left
      · simp only [Act.put, List.setIfInBounds_toArray, List.set_cons_zero, List.set_cons_succ, i64_w, i32_w]
        rfl
      refine take_ (i := 24) (N := some 75) (v := ?_) (a' := ?_) #[true, true, true, true, true, true, true, true, true, true, true, true, true, true, true, true, true, true, true, true, true, true, true, true, true, false, false] rfl rfl (by kernel_rfl) (fun _ _ _ h => h) (Or.inl ⟨by rfl, ?_⟩) hHeld ?_ ?_
      rotate_left
      · rintro w' ⟨s0, s1, s2, s3, s4, s5⟩
        go_simp
        with_reducible rfl
      rotate_left
      · simp only [Act.put, List.setIfInBounds_toArray, List.set_cons_zero, List.set_cons_succ, i64_w, i32_w]
        rfl
      refine pure_ (i := 25) (N := some 76) (v := ?_) (a' := ?_) #[true, true, true, true, true, true, true, true, true, true, true, true, true, true, true, true, true, true, true, true, true, true, true, true, true, true, false] rfl rfl (by kernel_rfl) (fun _ _ _ h => h) (Or.inl ⟨by rfl, ?_⟩) ?_ ?_
      rotate_left
      · intro w'
        go_simp
        with_reducible rfl
      rotate_left
      · simp only [Act.put, List.setIfInBounds_toArray, List.set_cons_zero, List.set_cons_succ, i64_w, i32_w]
        rfl
      refine pure_ (i := 26) (N := some 77) (v := ?_) (a' := ?_) #[true, true, true, true, true, true, true, true, true, true, true, true, true, true, true, true, true, true, true, true, true, true, true, true, true, true, true] rfl rfl (by kernel_rfl) (fun _ _ _ h => h) (Or.inl ⟨by rfl, ?_⟩) ?_ ?_
      rotate_left
      · intro w'
        go_simp
        with_reducible rfl
      rotate_left
      · simp only [Act.put, List.setIfInBounds_toArray, List.set_cons_zero, List.set_cons_succ, i64_w, i32_w]
        rfl
      refine done_ (by kernel_rfl) ?_
      have HBD : Aside0 (Below w3.heap.size w3 wx.drew) := ⟨below_step HBX.out (below_drew (Below.refl _ _))⟩
      have HDX : Aside0 (wx.drew.heap[wo.heap.size]? = some (.cells #[.int .i64 (a : Int), .int .i64 (q : Int)] 56 (0, 0))) := ⟨HDX.out⟩
      generalize wx.drew = wd at HBD HDX ⊢
      clear hHeld hy hy1 hp0 hp1 hq0 hq1 hd1 hd2 hd3 hqi0 hqi1 hai0 hai1 HBX
      go_wp2_with fail
      go_loopg [10] lg (fun kq v10 W => ∃ j : Nat, v10 = .int .i64 ((j + 1 : Nat) : Int) ∧ Aside0 (j ≤ lg ∧ kq = lg - j) ∧ Aside0 (Below wd.heap.size wd W))
      case atStart => exact ⟨0, rfl, ⟨Nat.zero_le _, by have := HNL.out; omega⟩, ⟨Below.refl _ _⟩⟩
      case round =>
        obtain ⟨j, rfl, HJQ, HBJ⟩ := hrel
        obtain ⟨jj, hjj⟩ : ∃ jj, jj = j + 1 := ⟨_, rfl⟩
        rw [← hjj]
        have HJJ := Aside0.mk hjj
        by_cases hjt : j < lg
        · have hdec : decide ((jj : Int) < (n : Int)) = true := decide_eq_true (by have := HNL.out; omega)
          have hdec2 : decide (jj < n) = true := decide_eq_true (by have := HNL.out; omega)
          have HJT := Aside0.mk hjt
          have HBW : Aside0 (Below w3.heap.size w3 wr) := ⟨below_step HBD.out HBJ.out⟩
          have hi1 : ((q + jj : Nat) : Int) < (l0_0.length : Int) := by have := HS3.out; omega
          have hi2 : ((a + jj : Nat) : Int) < (ds.length : Int) := by have := HS4.out; omega
          have hp1 : wr.cell? ⟨wo.heap.size, 1, none⟩ = some (.int .i64 (q : Int)) := (blk_cell (blk_below HDX.out HBJ.out) 1).trans rfl
          have hq0 : wr.cell? ⟨w.heap.size, 0, none⟩ = some (.slice A0_0 l0_0.length c0_0) := (blk_cell (blk_below HK3.out HBW.out) 0).trans rfl
          have hq1 : wr.cell? ⟨w2.heap.size, 0, none⟩ = some (.slice A1 ds.length c1) := (blk_cell (blk_below HD3.out HBW.out) 0).trans rfl
          obtain ⟨ad0, e0, hy⟩ := Kd.at_int (Kd.C_below H03.out HBW.out) ((q + jj : Nat) : Int) (Int.natCast_nonneg _) hi1
          obtain ⟨ad1, e1, hy1⟩ := Kd.at_int (Kd.C_below HC13.out HBW.out) ((a + jj : Nat) : Int) (Int.natCast_nonneg _) hi2
          have hwq : wrap64 ((q : Int) + (jj : Int)) = ((q + jj : Nat) : Int) := by have := HS3.out; have := HZ.out; unfold wrap64; omega
          have hwa : wrap64 ((a : Int) + (jj : Int)) = ((a + jj : Nat) : Int) := by have := HS4.out; have := HZ.out; unfold wrap64; omega
          have hal := HS6.out j hjt
          rw [show q + 1 + j = q + jj by omega, show a + 1 + j = a + jj by omega] at hal
          have hr0 : rd l0_0 ((q + jj : Nat) : Int) = l0_0.getD (q + jj) 0 := by unfold rd; rw [Int.toNat_natCast]
          have hr1 : rd ds ((a + jj : Nat) : Int) = ds.getD (a + jj) 0 := by unfold rd; rw [Int.toNat_natCast]
          rw [hr0, Int.toNat_natCast] at hy
          rw [hr1, Int.toNat_natCast] at hy1
          rw [e0] at hq0
          rw [e1] at hq1
          generalize l0_0.getD (q + jj) 0 = y1 at hal hy
          generalize ds.getD (a + jj) 0 = y2 at hal hy1
          have HCALL : Aside0 (∀ W, Below w3.heap.size w3 W → Calls Try.prog 30 #[.int .u64 y1, .int .u64 y2, .slice (some ad) ms.length c3] W fun e w' => e = .returned (.bool true) ∧ Below W.heap.size W w') := ⟨fun W hW => backstitchkeep3_alike.calls 3000 y1 y2 (some ad) c3 ms true W (Kd.C_below HC33.out hW) HL3.out hal⟩
          have hiq : (q : Int) + (jj : Int) < (l0_0.length : Int) := by omega
          have hia : (a : Int) + (jj : Int) < (ds.length : Int) := by omega
          have hzq : (0 : Int) ≤ (q : Int) + (jj : Int) := by omega
          have hza : (0 : Int) ≤ (a : Int) + (jj : Int) := by omega
          have htq : ((q : Int) + (jj : Int)).toNat = q + jj := by omega
          have hta : ((a : Int) + (jj : Int)).toNat = a + jj := by omega
          clear hjt hjj hal hr0 hr1
          go_upto_region 16 with fail
          refine start_ (n := 18) (S := fun w' => Below wr.heap.size wr w' ∧ w'.cell? ⟨wo.heap.size, 1, none⟩ = some (.int .i64 (q : Int)) ∧ w'.cell? ⟨w.heap.size, 0, none⟩ = some (.slice (some ad0) l0_0.length c0_0) ∧ w'.cell? ⟨w2.heap.size, 0, none⟩ = some (.slice (some ad1) ds.length c1) ∧ w'.cell? (ad0.add (q + jj)) = some (.int .u64 y1) ∧ w'.cell? (ad1.add (a + jj)) = some (.int .u64 y2)) (ds := []) #[false, false, false, false, false, false, false, false, false, false, false, false, false, false, false, false, false, false] (by kernel_rfl) rfl rfl ⟨(below_drew (Below.refl _ _)), hp1, hq0, hq1, hy, hy1⟩ (fun hHeld => ?_)
          refine pure_ (i := 0) (N := some 83) (v := ?_) (a' := ?_) #[true, false, false, false, false, false, false, false, false, false, false, false, false, false, false, false, false, false] rfl rfl (by kernel_rfl) (fun _ _ _ h => h) (Or.inl ⟨by rfl, ?_⟩) ?_ ?_
          rotate_left
          · intro w'
            go_simp
            with_reducible rfl
          rotate_left
          · simp only [Act.put, List.setIfInBounds_toArray, List.set_cons_zero, List.set_cons_succ, i64_w, i32_w]
            rfl
          refine pure_ (i := 2) (N := some 85) (v := ?_) (a' := ?_) #[true, false, true, false, false, false, false, false, false, false, false, false, false, false, false, false, false, false] rfl rfl (by kernel_rfl) (fun _ _ _ h => h) (Or.inl ⟨by rfl, ?_⟩) ?_ ?_
          rotate_left
          · intro w'
            go_simp
            with_reducible rfl
          rotate_left
          · simp only [Act.put, List.setIfInBounds_toArray, List.set_cons_zero, List.set_cons_succ, i64_w, i32_w]
            rfl
          refine pure_ (i := 4) (N := some 87) (v := ?_) (a' := ?_) #[true, false, true, false, true, false, false, false, false, false, false, false, false, false, false, false, false, false] rfl rfl (by kernel_rfl) (fun _ _ _ h => h) (Or.inl ⟨by rfl, ?_⟩) ?_ ?_
          rotate_left
          · intro w'
            go_simp
            with_reducible rfl
          rotate_left
          · simp only [Act.put, List.setIfInBounds_toArray, List.set_cons_zero, List.set_cons_succ, i64_w, i32_w]
            rfl
          refine pure_ (i := 8) (N := some 91) (v := ?_) (a' := ?_) #[true, false, true, false, true, false, false, false, true, false, false, false, false, false, false, false, false, false] rfl rfl (by kernel_rfl) (fun _ _ _ h => h) (Or.inl ⟨by rfl, ?_⟩) ?_ ?_
          rotate_left
          · intro w'
            go_simp
            with_reducible rfl
          rotate_left
          · simp only [Act.put, List.setIfInBounds_toArray, List.set_cons_zero, List.set_cons_succ, i64_w, i32_w]
            rfl
          refine pure_ (i := 10) (N := some 93) (v := ?_) (a' := ?_) #[true, false, true, false, true, false, false, false, true, false, true, false, false, false, false, false, false, false] rfl rfl (by kernel_rfl) (fun _ _ _ h => h) (Or.inl ⟨by rfl, ?_⟩) ?_ ?_
          rotate_left
          · intro w'
            go_simp
            with_reducible rfl
          rotate_left
          · simp only [Act.put, List.setIfInBounds_toArray, List.set_cons_zero, List.set_cons_succ, i64_w, i32_w]
            rfl
          refine pure_ (i := 11) (N := some 94) (v := ?_) (a' := ?_) #[true, false, true, false, true, false, false, false, true, false, true, true, false, false, false, false, false, false] rfl rfl (by kernel_rfl) (fun _ _ _ h => h) (Or.inl ⟨by rfl, ?_⟩) ?_ ?_
          rotate_left
          · intro w'
            go_simp
            with_reducible rfl
          rotate_left
          · simp only [Act.put, List.setIfInBounds_toArray, List.set_cons_zero, List.set_cons_succ, i64_w, i32_w]
            rfl
          refine pure_ (i := 12) (N := some 95) (v := ?_) (a' := ?_) #[true, false, true, false, true, false, false, false, true, false, true, true, true, false, false, false, false, false] rfl rfl (by kernel_rfl) (fun _ _ _ h => h) (Or.inl ⟨by rfl, ?_⟩) ?_ ?_
          rotate_left
          · intro w'
            go_simp
            with_reducible rfl
          rotate_left
          · simp only [Act.put, List.setIfInBounds_toArray, List.set_cons_zero, List.set_cons_succ, i64_w, i32_w]
            rfl
          refine pure_ (i := 15) (N := some 98) (v := ?_) (a' := ?_) #[true, false, true, false, true, false, false, false, true, false, true, true, true, false, false, true, false, false] rfl rfl (by kernel_rfl) (fun _ _ _ h => h) (Or.inl ⟨by rfl, ?_⟩) ?_ ?_
          rotate_left
          · intro w'
            go_simp
            with_reducible rfl
          rotate_left
          · simp only [Act.put, List.setIfInBounds_toArray, List.set_cons_zero, List.set_cons_succ, i64_w, i32_w]
            rfl
          refine take_ (i := 1) (N := some 84) (v := ?_) (a' := ?_) #[true, true, true, false, true, false, false, false, true, false, true, true, true, false, false, true, false, false] rfl rfl (by kernel_rfl) (fun _ _ _ h => h) (Or.inl ⟨by rfl, ?_⟩) hHeld ?_ ?_
          rotate_left
          · rintro w' ⟨s0, s1, s2, s3, s4, s5⟩
            go_simp
            with_reducible rfl
          rotate_left
          · simp only [Act.put, List.setIfInBounds_toArray, List.set_cons_zero, List.set_cons_succ, i64_w, i32_w]
            rfl
          refine take_ (i := 3) (N := some 86) (v := ?_) (a' := ?_) #[true, true, true, true, true, false, false, false, true, false, true, true, true, false, false, true, false, false] rfl rfl (by kernel_rfl) (fun _ _ _ h => h) (Or.inl ⟨by rfl, ?_⟩) hHeld ?_ ?_
          rotate_left
          · rintro w' ⟨s0, s1, s2, s3, s4, s5⟩
            go_simp
            with_reducible rfl
          rotate_left
          · simp only [Act.put, List.setIfInBounds_toArray, List.set_cons_zero, List.set_cons_succ, i64_w, i32_w]
            rfl
          refine pure_ (i := 5) (N := some 88) (v := ?_) (a' := ?_) #[true, true, true, true, true, true, false, false, true, false, true, true, true, false, false, true, false, false] rfl rfl (by kernel_rfl) (fun _ _ _ h => h) (Or.inl ⟨by rfl, ?_⟩) ?_ ?_
          rotate_left
          · intro w'
            go_simp
            with_reducible rfl
          rotate_left
          · simp only [Act.put, List.setIfInBounds_toArray, List.set_cons_zero, List.set_cons_succ, i64_w, i32_w]
            rfl
          refine pure_ (i := 6) (N := some 89) (v := ?_) (a' := ?_) #[true, true, true, true, true, true, true, false, true, false, true, true, true, false, false, true, false, false] rfl rfl (by kernel_rfl) (fun _ _ _ h => h) (Or.inl ⟨by rfl, ?_⟩) ?_ ?_
          rotate_left
          · intro w'
            go_simp
            with_reducible rfl
          rotate_left
          · simp only [Act.put, List.setIfInBounds_toArray, List.set_cons_zero, List.set_cons_succ, i64_w, i32_w]
            rfl
          refine take_ (i := 7) (N := some 90) (v := ?_) (a' := ?_) #[true, true, true, true, true, true, true, true, true, false, true, true, true, false, false, true, false, false] rfl rfl (by kernel_rfl) (fun _ _ _ h => h) (Or.inl ⟨by rfl, ?_⟩) hHeld ?_ ?_
          rotate_left
          · rintro w' ⟨s0, s1, s2, s3, s4, s5⟩
            go_simp
            with_reducible rfl
          rotate_left
          · simp only [Act.put, List.setIfInBounds_toArray, List.set_cons_zero, List.set_cons_succ, i64_w, i32_w]
            rfl
          refine take_ (i := 9) (N := some 92) (v := ?_) (a' := ?_) #[true, true, true, true, true, true, true, true, true, true, true, true, true, false, false, true, false, false] rfl rfl (by kernel_rfl) (fun _ _ _ h => h) (Or.inl ⟨by rfl, ?_⟩) hHeld ?_ ?_
          rotate_left
          · rintro w' ⟨s0, s1, s2, s3, s4, s5⟩
            go_simp
            with_reducible rfl
          rotate_left
          · simp only [Act.put, List.setIfInBounds_toArray, List.set_cons_zero, List.set_cons_succ, i64_w, i32_w]
            rfl
          refine pure_ (i := 13) (N := some 96) (v := ?_) (a' := ?_) #[true, true, true, true, true, true, true, true, true, true, true, true, true, true, false, true, false, false] rfl rfl (by kernel_rfl) (fun _ _ _ h => h) (Or.inl ⟨by rfl, ?_⟩) ?_ ?_
          rotate_left
          · intro w'
            go_simp
            with_reducible rfl
          rotate_left
          · simp only [Act.put, List.setIfInBounds_toArray, List.set_cons_zero, List.set_cons_succ, i64_w, i32_w]
            rfl
          refine take_ (i := 14) (N := some 97) (v := ?_) (a' := ?_) #[true, true, true, true, true, true, true, true, true, true, true, true, true, true, true, true, false, false] rfl rfl (by kernel_rfl) (fun _ _ _ h => h) (Or.inl ⟨by rfl, ?_⟩) hHeld ?_ ?_
          rotate_left
          · rintro w' ⟨s0, s1, s2, s3, s4, s5⟩
            go_simp
            with_reducible rfl
          rotate_left
          · simp only [Act.put, List.setIfInBounds_toArray, List.set_cons_zero, List.set_cons_succ, i64_w, i32_w]
            rfl
          refine one_ (i := 16) (N := some 99) #[true, true, true, true, true, true, true, true, true, true, true, true, true, true, true, true, true, false] rfl rfl (by kernel_rfl) (by decide) (fun K hK => ?_)
          refine goes_ Try.func30 (by kernel_rfl) rfl #[.int .u64 y1, .int .u64 y2, .slice (some ad) ms.length c3] (by rfl) rfl rfl (by simp only [List.map_toArray, List.map_cons, List.map_nil]; rfl) ?_
          with_reducible refine (HCALL.out _ (below_step HBW.out hHeld.1)).mono ?_
          rintro e w6 ⟨rfl, hb⟩
          refine ⟨_, rfl, ?_⟩
          refine hK.out _ _ ⟨hHeld.1.trans (below_cut hb hHeld.1.size), pw_cell_below hb hHeld.2.1, pw_cell_below hb hHeld.2.2.1, pw_cell_below hb hHeld.2.2.2.1, pw_cell_below hb hHeld.2.2.2.2.1, pw_cell_below hb hHeld.2.2.2.2.2⟩ (fun hHeld => ?_)
          clear hK K
          refine norm_ (a' := ?_) ?_ ?_
          rotate_left
          · show Act.put _ (some 99) _ = _
            simp only [Act.put, List.setIfInBounds_toArray, List.set_cons_zero, List.set_cons_succ, i64_w, i32_w]
            rfl
          refine pure_ (i := 17) (N := some 100) (v := ?_) (a' := ?_) #[true, true, true, true, true, true, true, true, true, true, true, true, true, true, true, true, true, true] rfl rfl (by kernel_rfl) (fun _ _ _ h => h) (Or.inl ⟨by rfl, ?_⟩) ?_ ?_
          rotate_left
          · intro w'
            go_simp
            with_reducible rfl
          rotate_left
          · simp only [Act.put, List.setIfInBounds_toArray, List.set_cons_zero, List.set_cons_succ, i64_w, i32_w]
            rfl
          refine done_ (by kernel_rfl) ?_
          have HB6 : Aside0 (Below wd.heap.size wd w6) := ⟨below_step HBJ.out hHeld.1⟩
          clear hHeld hb hp1 hq0 hq1 hy hy1 hwq hwa hiq hia hzq hza htq hta hdec hdec2 hi1 hi2
          go_wp2
          go_roundg (lg - (j + 1))
          case measure => have := HJQ.out; have := HJT.out; omega
          case rel => exact ⟨j + 1, by rw [HJJ.out] at *; first | rfl | (have := HJT.out; have := HS3.out; have := HZ.out; rw [show wrap64 (((j + 1 : Nat) : Int) + 1) = ((j + 1 + 1 : Nat) : Int) from by unfold wrap64; omega]), ⟨by have := HJT.out; omega, rfl⟩, HB6⟩
        · have e_ : jj = n := by have := HJQ.out; have := HNL.out; omega
          have hdec : decide ((jj : Int) < (n : Int)) = false := decide_eq_false (by omega)
          have hdec2 : decide (jj < n) = false := decide_eq_false (by omega)
          have HAN : Aside0 (wrap64 ((a : Int) + (n : Int)) = ((at_ (i + 1) : Nat) : Int)) := ⟨by have h1_ := HNX.out; have h2_ := HNL.out; have h3_ := HS4.out; have h4_ := HZ.out; rw [h1_]; unfold wrap64; omega⟩
          clear hjt hjj e_
          go_wp2
          go_roundg (ms.length - (i + 1))
          case measure => have := HIQ.out; have := HLT.out; omega
          case rel => exact ⟨i + 1, by first | rfl | (have := HLT.out; have := HZ.out; rw [show wrap64 ((i : Int) + 1) = ((i + 1 : Nat) : Int) from by unfold wrap64; omega]), by rw [HAN.out], ⟨by have := HLT.out; omega, rfl⟩, ⟨below_step HBD.out HBJ.out⟩⟩
    · have e_ : i = ms.length := by have := HIQ.out; omega
      subst e_
      rw [HT1.out]
      have hdec : decide ((ms.length : Int) < (ms.length : Int)) = false := decide_eq_false (by omega)
      have hdec2 : decide (ms.length < ms.length) = false := decide_eq_false hlt
      have hq1 : wr.cell? ⟨w2.heap.size, 1, none⟩ = some (.slice A2 outs.length c2) := (blk_cell (blk_below HD3.out HB.out) 1).trans rfl
      have hq0 : wr.cell? ⟨w.heap.size, 1, none⟩ = some (.slice A0_1 l0_1.length c0_1) := (blk_cell (blk_below HK3.out HB.out) 1).trans rfl
      have hd1 : ((outs.length : Int) != (l0_1.length : Int)) = false := by rw [HRL.out]; simp
      have hd2 : (outs.length != l0_1.length) = false := by rw [HRL.out]; simp
      have hd3 : decide (outs.length = l0_1.length) = true := decide_eq_true HRL.out
      clear hlt HIQ
      go_wp2_with fail
      obtain ⟨wo, rfl⟩ : ∃ wo : World, wo = wr := ⟨_, rfl⟩
      clear hq0 hq1 hdec hdec2 hd1 hd2 hd3
      go_loopg [115] l0_1.length (fun kq v115 W => ∃ j : Nat, v115 = .int .i64 (j : Int) ∧ Aside0 (j ≤ l0_1.length ∧ kq = l0_1.length - j) ∧ Aside0 (Below w3.heap.size w3 W))
      case atStart => exact ⟨0, rfl, ⟨Nat.zero_le _, by omega⟩, HB⟩
      case round =>
        obtain ⟨j, rfl, HJQ, HBJ⟩ := hrel
        by_cases hjt : j < l0_1.length
        · have hdec : decide ((j : Int) < (l0_1.length : Int)) = true := decide_eq_true (by omega)
          have hdec2 : decide (j < l0_1.length) = true := decide_eq_true hjt
          have HJT := Aside0.mk hjt
          have hj0 : (0 : Int) ≤ (j : Int) := by omega
          have hj1 : (j : Int) < (l0_1.length : Int) := by omega
          have hj2 : (j : Int) < (outs.length : Int) := by rw [HRL.out]; exact hj1
          have hq0 : wr.cell? ⟨w.heap.size, 1, none⟩ = some (.slice A0_1 l0_1.length c0_1) := (blk_cell (blk_below HK3.out HBJ.out) 1).trans rfl
          have hq1 : wr.cell? ⟨w2.heap.size, 1, none⟩ = some (.slice A2 outs.length c2) := (blk_cell (blk_below HD3.out HBJ.out) 1).trans rfl
          obtain ⟨ad0, e0, hy⟩ := Kd.at_int (Kd.C_below H13.out HBJ.out) (j : Int) hj0 hj1
          obtain ⟨ad1, e1, hy1⟩ := Kd.at_int (Kd.C_below HC23.out HBJ.out) (j : Int) hj0 hj2
          have hal := HRT.out j hjt
          have hr0 : rd l0_1 (j : Int) = l0_1.getD j 0 := by unfold rd; rw [Int.toNat_natCast]
          have hr1 : rd outs (j : Int) = outs.getD j 0 := by unfold rd; rw [Int.toNat_natCast]
          rw [hr0, Int.toNat_natCast] at hy
          rw [hr1, Int.toNat_natCast] at hy1
          rw [e0] at hq0
          rw [e1] at hq1
          generalize l0_1.getD j 0 = y1 at hal hy
          generalize outs.getD j 0 = y2 at hal hy1
          have HCALL : Aside0 (∀ W, Below w3.heap.size w3 W → Calls Try.prog 30 #[.int .u64 y1, .int .u64 y2, .slice A3 ms.length c3] W fun e w' => e = .returned (.bool true) ∧ Below W.heap.size W w') := ⟨fun W hW => backstitchkeep3_alike.calls 3000 y1 y2 A3 c3 ms true W (Kd.C_below HC33.out hW) HL3.out hal⟩
          clear hjt hal hr0 hr1
          go_upto_region 25 with fail
          refine start_ (n := 13) (S := fun w' => Below wr.heap.size wr w' ∧ w'.cell? ⟨w.heap.size, 1, none⟩ = some (.slice (some ad0) l0_1.length c0_1) ∧ w'.cell? ⟨w2.heap.size, 1, none⟩ = some (.slice (some ad1) outs.length c2) ∧ w'.cell? (ad0.add j) = some (.int .u64 y1) ∧ w'.cell? (ad1.add j) = some (.int .u64 y2)) (ds := []) #[false, false, false, false, false, false, false, false, false, false, false, false, false] (by kernel_rfl) rfl rfl ⟨(below_drew (Below.refl _ _)), hq0, hq1, hy, hy1⟩ (fun hHeld => ?_)
          refine pure_ (i := 0) (N := some 118) (v := ?_) (a' := ?_) #[true, false, false, false, false, false, false, false, false, false, false, false, false] rfl rfl (by kernel_rfl) (fun _ _ _ h => h) (Or.inl ⟨by rfl, ?_⟩) ?_ ?_
          rotate_left
          · intro w'
            go_simp
            with_reducible rfl
          rotate_left
          · simp only [Act.put, List.setIfInBounds_toArray, List.set_cons_zero, List.set_cons_succ, i64_w, i32_w]
            rfl
          refine pure_ (i := 2) (N := some 120) (v := ?_) (a' := ?_) #[true, false, true, false, false, false, false, false, false, false, false, false, false] rfl rfl (by kernel_rfl) (fun _ _ _ h => h) (Or.inl ⟨by rfl, ?_⟩) ?_ ?_
          rotate_left
          · intro w'
            go_simp
            with_reducible rfl
          rotate_left
          · simp only [Act.put, List.setIfInBounds_toArray, List.set_cons_zero, List.set_cons_succ, i64_w, i32_w]
            rfl
          refine pure_ (i := 5) (N := some 123) (v := ?_) (a' := ?_) #[true, false, true, false, false, true, false, false, false, false, false, false, false] rfl rfl (by kernel_rfl) (fun _ _ _ h => h) (Or.inl ⟨by rfl, ?_⟩) ?_ ?_
          rotate_left
          · intro w'
            go_simp
            with_reducible rfl
          rotate_left
          · simp only [Act.put, List.setIfInBounds_toArray, List.set_cons_zero, List.set_cons_succ, i64_w, i32_w]
            rfl
          refine pure_ (i := 7) (N := some 125) (v := ?_) (a' := ?_) #[true, false, true, false, false, true, false, true, false, false, false, false, false] rfl rfl (by kernel_rfl) (fun _ _ _ h => h) (Or.inl ⟨by rfl, ?_⟩) ?_ ?_
          rotate_left
          · intro w'
            go_simp
            with_reducible rfl
          rotate_left
          · simp only [Act.put, List.setIfInBounds_toArray, List.set_cons_zero, List.set_cons_succ, i64_w, i32_w]
            rfl
          refine pure_ (i := 10) (N := some 128) (v := ?_) (a' := ?_) #[true, false, true, false, false, true, false, true, false, false, true, false, false] rfl rfl (by kernel_rfl) (fun _ _ _ h => h) (Or.inl ⟨by rfl, ?_⟩) ?_ ?_
          rotate_left
          · intro w'
            go_simp
            with_reducible rfl
          rotate_left
          · simp only [Act.put, List.setIfInBounds_toArray, List.set_cons_zero, List.set_cons_succ, i64_w, i32_w]
            rfl
          refine take_ (i := 1) (N := some 119) (v := ?_) (a' := ?_) #[true, true, true, false, false, true, false, true, false, false, true, false, false] rfl rfl (by kernel_rfl) (fun _ _ _ h => h) (Or.inl ⟨by rfl, ?_⟩) hHeld ?_ ?_
          rotate_left
          · rintro w' ⟨s0, s1, s2, s3, s4⟩
            go_simp
            with_reducible rfl
          rotate_left
          · simp only [Act.put, List.setIfInBounds_toArray, List.set_cons_zero, List.set_cons_succ, i64_w, i32_w]
            rfl
          refine pure_ (i := 3) (N := some 121) (v := ?_) (a' := ?_) #[true, true, true, true, false, true, false, true, false, false, true, false, false] rfl rfl (by kernel_rfl) (fun _ _ _ h => h) (Or.inl ⟨by rfl, ?_⟩) ?_ ?_
          rotate_left
          · intro w'
            go_simp
            with_reducible rfl
          rotate_left
          · simp only [Act.put, List.setIfInBounds_toArray, List.set_cons_zero, List.set_cons_succ, i64_w, i32_w]
            rfl
          refine take_ (i := 4) (N := some 122) (v := ?_) (a' := ?_) #[true, true, true, true, true, true, false, true, false, false, true, false, false] rfl rfl (by kernel_rfl) (fun _ _ _ h => h) (Or.inl ⟨by rfl, ?_⟩) hHeld ?_ ?_
          rotate_left
          · rintro w' ⟨s0, s1, s2, s3, s4⟩
            go_simp
            with_reducible rfl
          rotate_left
          · simp only [Act.put, List.setIfInBounds_toArray, List.set_cons_zero, List.set_cons_succ, i64_w, i32_w]
            rfl
          refine take_ (i := 6) (N := some 124) (v := ?_) (a' := ?_) #[true, true, true, true, true, true, true, true, false, false, true, false, false] rfl rfl (by kernel_rfl) (fun _ _ _ h => h) (Or.inl ⟨by rfl, ?_⟩) hHeld ?_ ?_
          rotate_left
          · rintro w' ⟨s0, s1, s2, s3, s4⟩
            go_simp
            with_reducible rfl
          rotate_left
          · simp only [Act.put, List.setIfInBounds_toArray, List.set_cons_zero, List.set_cons_succ, i64_w, i32_w]
            rfl
          refine pure_ (i := 8) (N := some 126) (v := ?_) (a' := ?_) #[true, true, true, true, true, true, true, true, true, false, true, false, false] rfl rfl (by kernel_rfl) (fun _ _ _ h => h) (Or.inl ⟨by rfl, ?_⟩) ?_ ?_
          rotate_left
          · intro w'
            go_simp
            with_reducible rfl
          rotate_left
          · simp only [Act.put, List.setIfInBounds_toArray, List.set_cons_zero, List.set_cons_succ, i64_w, i32_w]
            rfl
          refine take_ (i := 9) (N := some 127) (v := ?_) (a' := ?_) #[true, true, true, true, true, true, true, true, true, true, true, false, false] rfl rfl (by kernel_rfl) (fun _ _ _ h => h) (Or.inl ⟨by rfl, ?_⟩) hHeld ?_ ?_
          rotate_left
          · rintro w' ⟨s0, s1, s2, s3, s4⟩
            go_simp
            with_reducible rfl
          rotate_left
          · simp only [Act.put, List.setIfInBounds_toArray, List.set_cons_zero, List.set_cons_succ, i64_w, i32_w]
            rfl
          refine one_ (i := 11) (N := some 129) #[true, true, true, true, true, true, true, true, true, true, true, true, false] rfl rfl (by kernel_rfl) (by decide) (fun K hK => ?_)
          refine goes_ Try.func30 (by kernel_rfl) rfl #[.int .u64 y1, .int .u64 y2, .slice A3 ms.length c3] (by rfl) rfl rfl (by simp only [List.map_toArray, List.map_cons, List.map_nil]; rfl) ?_
          with_reducible refine (HCALL.out _ (below_step HBJ.out hHeld.1)).mono ?_
          rintro e w6 ⟨rfl, hb⟩
          refine ⟨_, rfl, ?_⟩
          refine hK.out _ _ ⟨hHeld.1.trans (below_cut hb hHeld.1.size), pw_cell_below hb hHeld.2.1, pw_cell_below hb hHeld.2.2.1, pw_cell_below hb hHeld.2.2.2.1, pw_cell_below hb hHeld.2.2.2.2⟩ (fun hHeld => ?_)
          clear hK K
          refine norm_ (a' := ?_) ?_ ?_
          rotate_left
          · show Act.put _ (some 129) _ = _
            simp only [Act.put, List.setIfInBounds_toArray, List.set_cons_zero, List.set_cons_succ, i64_w, i32_w]
            rfl
          refine pure_ (i := 12) (N := some 130) (v := ?_) (a' := ?_) #[true, true, true, true, true, true, true, true, true, true, true, true, true] rfl rfl (by kernel_rfl) (fun _ _ _ h => h) (Or.inl ⟨by rfl, ?_⟩) ?_ ?_
          rotate_left
          · intro w'
            go_simp
            with_reducible rfl
          rotate_left
          · simp only [Act.put, List.setIfInBounds_toArray, List.set_cons_zero, List.set_cons_succ, i64_w, i32_w]
            rfl
          refine done_ (by kernel_rfl) ?_
          have HB6 : Aside0 (Below w3.heap.size w3 w6) := ⟨below_step HBJ.out hHeld.1⟩
          clear hHeld hb hq0 hq1 hy hy1 hdec hdec2 hj0 hj1 hj2
          go_wp2
          go_roundg (l0_1.length - (j + 1))
          case measure => have := HJQ.out; have := HJT.out; omega
          case rel => exact ⟨j + 1, by first | rfl | (have := HJT.out; have := HZ.out; rw [show wrap64 ((j : Int) + 1) = ((j + 1 : Nat) : Int) from by unfold wrap64; omega]), ⟨by have := HJT.out; omega, rfl⟩, HB6⟩
        · have e_ : j = l0_1.length := by have := HJQ.out; omega
          subst e_
          have hdec : decide ((l0_1.length : Int) < (l0_1.length : Int)) = false := decide_eq_false (by omega)
          have hdec2 : decide (l0_1.length < l0_1.length) = false := decide_eq_false hjt
          clear hjt HJQ
          go_wp2_with fail
          refine (hauled_calls _).mono ?_
          rintro e w8 ⟨rfl, hb⟩
          have hb38 := below_step HBJ.out hb
          have HB38 := Aside0.mk hb38
          have hd8 := blk_below HD3.out hb38
          have hq0 : w8.cell? ⟨w2.heap.size, 0, none⟩ = some (.slice A1 ds.length c1) := (blk_cell hd8 0).trans rfl
          have hq1 : w8.cell? ⟨w2.heap.size, 1, none⟩ = some (.slice A2 outs.length c2) := (blk_cell hd8 1).trans rfl
          have hcall := check_h w8 A1 c1 ds A2 c2 outs (Kd.C_below HC13.out hb38) HL1.out (Kd.C_below HC23.out hb38) HGU.out HGV.out
          rw [HCK.out] at hcall
          have HCALL := Aside0.mk hcall
          have hd1 : ((ds.length : Int) == (ds.length : Int)) = true := by simp
          clear hb hb38 hd8 hcall hdec hdec2
          go_wp2_with fail
          refine HCALL.out.mono ?_
          rintro e w9 ⟨rfl, hb⟩
          have HB9 : Aside0 (Below w.heap.size w w9) := ⟨HB3.out.trans (below_cut (below_step HB38.out hb) HB3.out.size)⟩
          clear hb hq0 hq1 HCALL
          go_wp2
          go_ret
          exact ⟨rfl, HB9.out⟩
end Go.Proofs.Ytoleplbmkdhgeaa.PQ
