-- Printed (pr.sh).
import Derived.Test.YtchcbncelckgeaaPM0
import Derived.Test.YtchcbncelckgeaaPM3
import Derived.Test.YtchcbncelckgeaaPM9
import Derived.Test.YtchcbncelckgeaaPM10
namespace Go.Proofs.Ytchcbncelckgeaa.PM
open Go.RowKit Go.Proofs.YtchcbncelckgeaaW.PrintWords Go.Proofs.YtchcbncelckgeaaW.PrintLast Go.Proofs.YtchcbncelckgeaaW.PrintMore
attribute [local go_sem] max2_int min2_int max_two min_two max_three min_three max_four min_four   -- for this text's walks alone
set_option linter.unusedVariables false
set_option linter.unusedSimpArgs false

/-! ### leave_own: function 44 -/
def leave_own.l0 : Nat → List (S50) → List (S50) → Int → Int → Option ((List (S50)))
  | 0, _, _, _, _ => none
  | k + 1, x3, x8, x9, x10 => if x10 < x9 then (if 0 ≤ x10 then (if x10 < (x8.length : Int) then ((api_Val_40.f ((rd_T50 x8 x10).f2)).bind fun t192 => ((leave_frames.f k ((rd_T50 x8 x10).f3)).bind fun t195 => (if x10 < (x3.length : Int) then ((some (x3.set (x10 : Int).toNat (⟨(rd_T50 x3 x10).f0, (rd_T50 x3 x10).f1, t192, (rd_T50 x3 x10).f3⟩ : S50) : List (S50))).bind fun y198 => (leave_own.l0 k (y198.set (x10 : Int).toNat (⟨(rd_T50 y198 x10).f0, (rd_T50 y198 x10).f1, (rd_T50 y198 x10).f2, t195⟩ : S50)) x8 x9 (wrap64 (x10 + 1)))) else (none)))) else (none)) else (none)) else (some x3)
def leave_own.f (k : Nat) (l0 : List (S50)) : Option ((List (S50))) := (api_Cell.f l0).bind fun t187 => (leave_own.l0 k t187 l0 (l0.length : Int) 0)
theorem leave_own.mono_l : ∀ k, (∀ y0 y1 y2 y3, LeO (leave_own.l0 k y0 y1 y2 y3) (leave_own.l0 (k + 1) y0 y1 y2 y3))
  | 0 => fun _ _ _ _ r h => by simp [leave_own.l0] at h
  | k + 1 => by
    have ih0 := leave_own.mono_l k
    · intro y0 y1 y2 y3
      unfold leave_own.l0
      repeat' first
      | (with_reducible exact ih0 _ _ _ _)
      | (with_reducible exact leave_frames.mono _ _)
      | (with_reducible exact LeO.refl _)
      | (with_reducible exact LeO.none _)
      | (with_reducible refine LeO.ite ?_ ?_)
      | (with_reducible refine LeO.bind ?_ (fun _ => ?_))
      | exact ih0 _ _ _ _
      | exact leave_frames.mono _ _
      | exact LeO.none _
      | refine LeO.ite ?_ ?_
      | refine LeO.bind ?_ (fun _ => ?_)
theorem leave_own.mono : ∀ a0 k, LeO (leave_own.f k a0) (leave_own.f (k + 1) a0) := by
  intro a0 k
  have ih0 := leave_own.mono_l k
  unfold leave_own.f
  repeat' first
      | (with_reducible exact ih0 _ _ _ _)
      | (with_reducible exact leave_frames.mono _ _)
      | (with_reducible exact LeO.refl _)
      | (with_reducible exact LeO.none _)
      | (with_reducible refine LeO.ite ?_ ?_)
      | (with_reducible refine LeO.bind ?_ (fun _ => ?_))
      | exact ih0 _ _ _ _
      | exact leave_frames.mono _ _
      | exact LeO.none _
      | refine LeO.ite ?_ ?_
      | refine LeO.bind ?_ (fun _ => ?_)
def leave_own.T5 : Bool × List (List Nat × List Nat) := (true, [([], []), ([], []), ([], []), ([], []), ([], []), ([4], [4]), ([5], [5]), ([], []), ([7], [7]), ([8, 6], [8]), ([0, 1, 0, 1, 4, 5, 6, 9], [0, 1]), ([10, 0, 1, 4, 5, 6, 9], [10]), ([11, 6, 9, 0, 1, 4, 5, 6, 9], [6, 11]), ([2, 3, 0, 1, 2, 3, 4, 5, 6, 7, 8, 9, 10, 11, 12], [2, 3]), ([13, 0, 1, 2, 3, 4, 5, 6, 7, 8, 9, 10, 11, 12], [13]), ([14, 9, 12, 0, 1, 2, 3, 4, 5, 6, 7, 8, 9, 10, 11, 12], [9, 14])])
def leave_own.B5 : List Nat := [0, 0, 0, 0, 0, 16, 48, 0, 128, 496, 1011, 2035, 4083, 8191, 16383, 32767]
theorem leave_own.tab5 : rtab .any (opsOf Try.f44 5) = leave_own.T5 := by kernel_rfl
theorem leave_own.bits5 : waitsOk leave_own.T5.2 leave_own.B5 = true := by kernel_rfl
set_option maxHeartbeats 8000000 in
set_option maxRecDepth 100000 in
theorem leave_own.calls (k : Nat) (P0_ : Nat → Prop) (A0 : Option Addr) (c0 : Nat) (l0 : List (S50)) (r : List (S50)) (w : World) (hs0 : Kd.V k50 50 w w.heap.size (fun k_ => P0_ k_) (.slice A0 l0.length c0) l0) (h : leave_own.f k l0 = some r) :
    Calls Try.prog 44 #[.slice A0 l0.length c0] w fun e w' => ∃ v0_ : Value, e = .returned (v0_) ∧ Kd.N k50 50 w' w.heap.size (fun k_ => (P0_ k_ ∨ w.heap.size ≤ k_)) v0_ r ∧ Below w.heap.size w w' := by
  have hu50 := Try.underlying50
  have HO0 := Aside0.mk (show Kd.V k50 50 w w.heap.size (fun k_ => (P0_ k_ ∨ w.heap.size ≤ k_)) (.slice A0 l0.length c0) l0 from Kd.V_mono hs0 (fun k_ hk => .inl hk))
  have HB := Aside0.mk (Below.refl w.heap.size w)
  have H : ((api_Cell.f l0).bind fun t187 => (leave_own.l0 k t187 l0 (l0.length : Int) 0)) = some r := h
  clear h
  replace H := Option.bind_eq_some_iff.mp H
  obtain ⟨t187, A20, H⟩ := H
  replace H : (leave_own.l0 k t187 l0 (l0.length : Int) 0) = some r := H
  have A2 := Aside0.mk A20
  clear A20
  have H' := Aside0.mk H
  clear H
  go_enter Try.func44, Try.ntmps44
  go_wp2_with (first | ((with_reducible refine gate_callee (f := 66) rfl ?_); refine goesL_ (some 7) rfl rfl Try.func66 (by kernel_rfl) rfl #[.slice A0 l0.length c0] rfl (by (try simp only [List.map_toArray, List.map_cons, List.map_nil]); first | done | rfl | (simp only [List.length_drop, List.length_take]; rfl)) ?_; (with_reducible refine (api_Cell.calls (fun k_ => (P0_ k_ ∨ w.heap.size ≤ k_)) _ _ l0 t187 _ ?side1 A2.out).mono ?_); (case side1 => exact HO0.out); rintro e w3 ⟨v188, rfl, ho0, hb⟩; refine ⟨_, rfl, ?_⟩; have n0_ := Aside0.mk (Kd.V_elder' (by (with_reducible repeat (first | apply Kd.V_alloc | apply Kd.V_drewN | apply Kd.V_drew)); exact HO0.out) (Kd.N_base ho0) hb); have n1_ := Aside0.mk (Kd.N_lower (Kd.N_mono (ok' := fun k_ => (P0_ k_ ∨ w.heap.size ≤ k_)) ho0 (fun k_ hk_ => Or.elim hk_ (fun hs_ => hs_) (fun hn_ => (.inr (Nat.le_trans (below_size (by repeat (with_reducible first | exact HB.out | apply below_alloc | apply pw_below_drewN | apply below_drew1))) hn_))))) (below_size (by repeat (with_reducible first | exact HB.out | apply below_alloc | apply pw_below_drewN | apply below_drew1)))); have n2_ := Aside0.mk (below_step (by repeat (with_reducible first | exact HB.out | apply below_alloc | apply pw_below_drewN | apply below_drew1)) hb); clear HO0; clear HB; have HO0 := n0_; have HO189 := n1_; have HB := n2_; clear n0_ n1_ n2_; (try clear hb); (try clear hb2); (try clear hk); (try clear hi); (try clear ho0)))
  go_loopg [10] k (fun kq v10 w' => ∃ (x3_1 : List (S50)) (x10_1 : Int), v10 = .int .i64 x10_1 ∧ Aside0 (leave_own.l0 kq x3_1 l0 (l0.length : Int) x10_1 = some r) ∧ Aside0 (kq ≤ k) ∧ Aside0 (Kd.N k50 50 w' w.heap.size (fun k_ => (P0_ k_ ∨ w.heap.size ≤ k_)) v188 x3_1) ∧ Aside0 (Kd.V k50 50 w' w.heap.size (fun k_ => (P0_ k_ ∨ w.heap.size ≤ k_) ∧ some k_ ≠ (v188 : Value).ownBlock) (.slice A0 l0.length c0) l0) ∧ Aside0 (Below w.heap.size w w'))
  case atStart => exact ⟨(t187), (0), (by first | rfl | (simp; done) | (simp [*]; done)), H', ⟨Nat.le_refl _⟩, ⟨by (with_reducible repeat (first | apply Kd.N_alloc | apply Kd.N_drewN | apply Kd.N_drew)); exact HO189.out⟩, ⟨by (with_reducible repeat (first | apply Kd.V_alloc | apply Kd.V_drewN | apply Kd.V_drew)); exact HO0.out⟩, ⟨by repeat (with_reducible first | exact HB.out | apply below_alloc | apply pw_below_drewN | apply below_drew1)⟩⟩
  case round =>
    clear H'
    try clear p2
    obtain ⟨x3_1, x10_1, rfl, HA, HK1, HO_3, HO_8, HB⟩ := hrel
    cases gk with
    | zero => exact absurd HA.out (by simp [leave_own.l0])
    | succ k1 =>
      have H := HA.out
      clear HA
      simp only [leave_own.l0] at H
      by_cases c4 : x10_1 < (l0.length : Int)
      · rw [if_pos c4] at H
        have c4b0 : decide (x10_1 < (l0.length : Int)) = true := decide_eq_true c4
        clear c4
        by_cases c5 : 0 ≤ x10_1
        · rw [if_pos c5] at H
          have c5b0 : decide (0 ≤ x10_1) = true := decide_eq_true c5
          clear c5
          by_cases c6 : x10_1 < (l0.length : Int)
          · rw [if_pos c6] at H
            have c6b0 : decide (x10_1 < (l0.length : Int)) = true := decide_eq_true c6
            clear c6
            replace H := Option.bind_eq_some_iff.mp H
            obtain ⟨t192, A70, H⟩ := H
            replace H : ((leave_frames.f k1 ((rd_T50 l0 x10_1).f3)).bind fun t195 => (if x10_1 < (x3_1.length : Int) then ((some (x3_1.set (x10_1 : Int).toNat (⟨(rd_T50 x3_1 x10_1).f0, (rd_T50 x3_1 x10_1).f1, t192, (rd_T50 x3_1 x10_1).f3⟩ : S50) : List (S50))).bind fun y198 => (leave_own.l0 k1 (y198.set (x10_1 : Int).toNat (⟨(rd_T50 y198 x10_1).f0, (rd_T50 y198 x10_1).f1, (rd_T50 y198 x10_1).f2, t195⟩ : S50)) l0 (l0.length : Int) (wrap64 (x10_1 + 1)))) else (none))) = some r := H
            have A7 := Aside0.mk A70
            clear A70
            replace H := Option.bind_eq_some_iff.mp H
            obtain ⟨t195, A80, H⟩ := H
            replace H : (if x10_1 < (x3_1.length : Int) then ((some (x3_1.set (x10_1 : Int).toNat (⟨(rd_T50 x3_1 x10_1).f0, (rd_T50 x3_1 x10_1).f1, t192, (rd_T50 x3_1 x10_1).f3⟩ : S50) : List (S50))).bind fun y198 => (leave_own.l0 k1 (y198.set (x10_1 : Int).toNat (⟨(rd_T50 y198 x10_1).f0, (rd_T50 y198 x10_1).f1, (rd_T50 y198 x10_1).f2, t195⟩ : S50)) l0 (l0.length : Int) (wrap64 (x10_1 + 1)))) else (none)) = some r := H
            have A8 := Aside0.mk A80
            clear A80
            by_cases c9 : x10_1 < (x3_1.length : Int)
            · rw [if_pos c9] at H
              have c9b0 : decide (x10_1 < (x3_1.length : Int)) = true := decide_eq_true c9
              clear c9
              obtain ⟨y198, hy198⟩ : ∃ y_ : List (S50), y_ = (x3_1.set (x10_1 : Int).toNat (⟨(rd_T50 x3_1 x10_1).f0, (rd_T50 x3_1 x10_1).f1, t192, (rd_T50 x3_1 x10_1).f3⟩ : S50)) := ⟨_, rfl⟩
              replace H : (leave_own.l0 k1 (y198.set (x10_1 : Int).toNat (⟨(rd_T50 y198 x10_1).f0, (rd_T50 y198 x10_1).f1, (rd_T50 y198 x10_1).f2, t195⟩ : S50)) l0 (l0.length : Int) (wrap64 (x10_1 + 1))) = some r := by first | (rw [hy198]; with_reducible exact H) | (have H2_ := (Option.bind_some _ _).symm.trans H; rw [hy198]; with_reducible exact H2_) | (have H2_ := (Option.bind_some _ _).symm.trans H; with_reducible exact H2_) | with_reducible exact H | (rw [hy198]; exact H) | exact H
              have Ny198 := Aside0.mk hy198
              clear hy198
              obtain ⟨y199, hy199⟩ : ∃ y_ : List (S50), y_ = (y198.set (x10_1 : Int).toNat (⟨(rd_T50 y198 x10_1).f0, (rd_T50 y198 x10_1).f1, (rd_T50 y198 x10_1).f2, t195⟩ : S50)) := ⟨_, rfl⟩
              replace H : (leave_own.l0 k1 y199 l0 (l0.length : Int) (wrap64 (x10_1 + 1))) = some r := by first | (rw [hy199]; with_reducible exact H) | (have H2_ := (Option.bind_some _ _).symm.trans H; rw [hy199]; with_reducible exact H2_) | (have H2_ := (Option.bind_some _ _).symm.trans H; with_reducible exact H2_) | with_reducible exact H | (rw [hy199]; exact H) | exact H
              have Ny199 := Aside0.mk hy199
              clear hy199
              have H' := Aside0.mk H
              clear H
              have p190 : 0 ≤ (x10_1 : Int) := of_decide_eq_true (by first | (with_reducible assumption) | assumption)
              have q190 : x10_1 < (l0.length : Int) := of_decide_eq_true (by first | (with_reducible assumption) | assumption)
              obtain ⟨ad190, A190_2, c190_2, A190_3, c190_3, e190, hx190_0, hx190_1, hx190_2, hx190_3, hl190_2, hi190_2, hl190_3, hi190_3⟩ := at_T50 (Kd.V_reads' HO_8.out).2.2 x10_1 p190 q190
              cases e190
              obtain ⟨ce190, hce190, hMe190, hcc190⟩ := Kd.V_get HO_8.out z50 x10_1 p190 (by first | exact q190 | exact of_decide_eq_true (by first | (with_reducible assumption) | assumption) | (have e_ := (Kd.V_reads' HO_8.out).1; omega))
              obtain ⟨ua190_2, uc190_2, ua190_3, uc190_3, rfl, ul190_2, ge190_2, ul190_3, ge190_3⟩ := k50_openF hMe190
              have hv190_2 := hcc190 2 _ rfl
              rw [add_field _ _ 2 (by omega)] at hv190_2
              replace hv190_2 := Option.some.inj (hv190_2.symm.trans hx190_2)
              injection hv190_2 with hva_ hvn_ hvc_
              rw [hva_] at ge190_2
              rw [hvc_] at ul190_2
              have HL190_2 := Aside0.mk (show Kd.V k23 23 _ w.heap.size _ _ ((rd_T50 l0 x10_1).f2) from Kd.V_mk ul190_2 ge190_2)
              clear hva_ hvn_ hvc_ ge190_2 ul190_2
              have hv190_3 := hcc190 3 _ rfl
              rw [add_field _ _ 3 (by omega)] at hv190_3
              replace hv190_3 := Option.some.inj (hv190_3.symm.trans hx190_3)
              injection hv190_3 with hva_ hvn_ hvc_
              rw [hva_] at ge190_3
              rw [hvc_] at ul190_3
              have HL190_3 := Aside0.mk (show Kd.V k27 27 _ w.heap.size _ _ ((rd_T50 l0 x10_1).f3) from Kd.V_mk ul190_3 ge190_3)
              clear hva_ hvn_ hvc_ ge190_3 ul190_3
              clear hcc190 hce190
              have HR190_2 := Aside0.mk hi190_2
              have HC190_2 := Aside0.mk hl190_2
              clear hi190_2 hl190_2
              have HR190_3 := Aside0.mk hi190_3
              have HC190_3 := Aside0.mk hl190_3
              clear hi190_3 hl190_3
              replace p190 := eq_true p190
              replace q190 := eq_true q190
              try go_wp2_with (first | ((with_reducible refine gate_dst (N := 5) rfl ?_); refine box_event ?hg (N := 5) ?hd (cs := #[.int .i64 0, .int .i64 0, .slice none 0 0, .slice none 0 0]) (t := 50) ?hr ?_; (case hd => rfl); (case hg => rfl); (case hr => first | (go_simp; done) | (go_simp; rfl)); intro gb191 hg w12 hbox hb; have n0_ := Aside0.mk (Kd.N_below (Kd.N_elderB (by (with_reducible repeat (first | apply Kd.N_alloc | apply Kd.N_drewN | apply Kd.N_drew)); exact HO_3.out) gb191 (Nat.le_of_eq hg.symm)) hb); have n1_ := Aside0.mk (Kd.V_below (Kd.V_elderB (by (with_reducible repeat (first | apply Kd.V_alloc | apply Kd.V_drewN | apply Kd.V_drew)); exact HO_8.out) gb191 (Nat.le_of_eq hg.symm)) hb); have n2_ := Aside0.mk (Kd.V_below (Kd.V_elderB (by (with_reducible repeat (first | apply Kd.V_alloc | apply Kd.V_drewN | apply Kd.V_drew)); exact HL190_2.out) gb191 (Nat.le_of_eq hg.symm)) hb); have n3_ := Aside0.mk (Kd.V_below (Kd.V_elderB (by (with_reducible repeat (first | apply Kd.V_alloc | apply Kd.V_drewN | apply Kd.V_drew)); exact HL190_3.out) gb191 (Nat.le_of_eq hg.symm)) hb); have n4_ := Aside0.mk (Kd.C_below (by repeat (first | (with_reducible exact HR190_2.out) | (with_reducible refine Kd.C_alloc ?_ _) | (with_reducible refine Kd.C_drewN ?_ _) | (with_reducible refine Kd.C_drew ?_) | exact HR190_2.out)) hb); have n5_ := Aside0.mk (Kd.C_below (by repeat (first | (with_reducible exact HR190_3.out) | (with_reducible refine Kd.C_alloc ?_ _) | (with_reducible refine Kd.C_drewN ?_ _) | (with_reducible refine Kd.C_drew ?_) | exact HR190_3.out)) hb); have n6_ := Aside0.mk (below_step (by repeat (with_reducible first | exact HB.out | apply below_alloc | apply pw_below_drewN | apply below_drew1)) hb); have n7_ := Aside0.mk (hbox); have n8_ := Aside0.mk ((by rw [hg]; exact (below_size (by repeat (with_reducible first | exact HB.out | apply below_alloc | apply pw_below_drewN | apply below_drew1))) : w.heap.size ≤ gb191)); have n9_ := Aside0.mk ((by rw [hg]; exact (below_size (by repeat (with_reducible first | exact HB.out | apply below_alloc | apply pw_below_drewN | apply below_drew1))) : w.heap.size ≤ gb191)); clear HO_3; clear HO_8; clear HL190_2; clear HL190_3; clear HR190_2; clear HR190_3; clear HB; have HO_3 := n0_; have HO_8 := n1_; have HL190_2 := n2_; have HL190_3 := n3_; have HR190_2 := n4_; have HR190_3 := n5_; have HB := n6_; have BK191 := n7_; have GW191 := n8_; have GE191 := n9_; clear n0_ n1_ n2_ n3_ n4_ n5_ n6_ n7_ n8_ n9_; clear hb hbox hg; have hcz13_0 : w12.cell? ⟨gb191, 0, none⟩ = some (.int .i64 0) := (blk_cell BK191.out 0).trans rfl; have hcz13_1 : w12.cell? ⟨gb191, 1, none⟩ = some (.int .i64 0) := (blk_cell BK191.out 1).trans rfl; have hcz13_2 : w12.cell? ⟨gb191, 2, none⟩ = some (.slice none 0 0) := (blk_cell BK191.out 2).trans rfl; have hcz13_3 : w12.cell? ⟨gb191, 3, none⟩ = some (.slice none 0 0) := (blk_cell BK191.out 3).trans rfl; have hfz13_0 := blk_frozen BK191.out 0; have hfz13_1 := blk_frozen BK191.out 1; have hfz13_2 := blk_frozen BK191.out 2; have hfz13_3 := blk_frozen BK191.out 3))
              have n0_ : Aside0 (Kd.N k50 50 ((((w12.setCell ⟨gb191, 0, none⟩ (.int .i64 ((rd_T50 l0 x10_1).f0))).setCell ⟨gb191, 1, none⟩ (.int .i64 ((rd_T50 l0 x10_1).f1))).setCell ⟨gb191, 2, none⟩ (.slice A190_2 ((rd_T50 l0 x10_1).f2).length c190_2)).setCell ⟨gb191, 3, none⟩ (.slice A190_3 ((rd_T50 l0 x10_1).f3).length c190_3)) w.heap.size (fun k_ => (P0_ k_ ∨ w.heap.size ≤ k_) ∧ k_ ≠ gb191) v188 x3_1) := ⟨by (with_reducible repeat (first | apply Kd.N_alloc | apply Kd.N_drewN | apply Kd.N_drew)); exact Kd.N_mono (Kd.N_far (p := ⟨gb191, 3, none⟩) (Kd.N_far (p := ⟨gb191, 2, none⟩) (Kd.N_far (p := ⟨gb191, 1, none⟩) (Kd.N_far (p := ⟨gb191, 0, none⟩) (Kd.N_mono HO_3.out (fun k_ hk => (⟨hk, hk.2⟩ : _ ∧ k_ ≠ gb191))) (fun _ hk => hk.2) (.int .i64 ((rd_T50 l0 x10_1).f0))) (fun _ hk => hk.2) (.int .i64 ((rd_T50 l0 x10_1).f1))) (fun _ hk => hk.2) (.slice A190_2 ((rd_T50 l0 x10_1).f2).length c190_2)) (fun _ hk => hk.2) (.slice A190_3 ((rd_T50 l0 x10_1).f3).length c190_3)) (fun _ hk => ⟨hk.1.1, hk.1.2⟩)⟩
              have n1_ : Aside0 (Kd.V k50 50 ((((w12.setCell ⟨gb191, 0, none⟩ (.int .i64 ((rd_T50 l0 x10_1).f0))).setCell ⟨gb191, 1, none⟩ (.int .i64 ((rd_T50 l0 x10_1).f1))).setCell ⟨gb191, 2, none⟩ (.slice A190_2 ((rd_T50 l0 x10_1).f2).length c190_2)).setCell ⟨gb191, 3, none⟩ (.slice A190_3 ((rd_T50 l0 x10_1).f3).length c190_3)) w.heap.size (fun k_ => (P0_ k_ ∨ w.heap.size ≤ k_) ∧ some k_ ≠ (v188 : Value).ownBlock ∧ k_ ≠ gb191) (.slice (some ad190) l0.length c0) l0) := ⟨by (with_reducible repeat (first | apply Kd.V_alloc | apply Kd.V_drewN | apply Kd.V_drew)); exact Kd.V_mono (Kd.V_far (p := ⟨gb191, 3, none⟩) (Kd.V_far (p := ⟨gb191, 2, none⟩) (Kd.V_far (p := ⟨gb191, 1, none⟩) (Kd.V_far (p := ⟨gb191, 0, none⟩) (Kd.V_mono HO_8.out (fun k_ hk => (⟨hk, hk.2⟩ : _ ∧ k_ ≠ gb191))) (fun _ hk => hk.2) (.int .i64 ((rd_T50 l0 x10_1).f0))) (fun _ hk => hk.2) (.int .i64 ((rd_T50 l0 x10_1).f1))) (fun _ hk => hk.2) (.slice A190_2 ((rd_T50 l0 x10_1).f2).length c190_2)) (fun _ hk => hk.2) (.slice A190_3 ((rd_T50 l0 x10_1).f3).length c190_3)) (fun _ hk => ⟨hk.1.1.1, ⟨hk.1.1.2, hk.1.2⟩⟩)⟩
              have n2_ : Aside0 (Kd.V k23 23 ((((w12.setCell ⟨gb191, 0, none⟩ (.int .i64 ((rd_T50 l0 x10_1).f0))).setCell ⟨gb191, 1, none⟩ (.int .i64 ((rd_T50 l0 x10_1).f1))).setCell ⟨gb191, 2, none⟩ (.slice A190_2 ((rd_T50 l0 x10_1).f2).length c190_2)).setCell ⟨gb191, 3, none⟩ (.slice A190_3 ((rd_T50 l0 x10_1).f3).length c190_3)) w.heap.size (fun k_ => (P0_ k_ ∨ w.heap.size ≤ k_) ∧ some k_ ≠ (v188 : Value).ownBlock ∧ k_ ≠ gb191) (.slice A190_2 ((rd_T50 l0 x10_1).f2).length c190_2) ((rd_T50 l0 x10_1).f2)) := ⟨by (with_reducible repeat (first | apply Kd.V_alloc | apply Kd.V_drewN | apply Kd.V_drew)); exact Kd.V_mono (Kd.V_far (p := ⟨gb191, 3, none⟩) (Kd.V_far (p := ⟨gb191, 2, none⟩) (Kd.V_far (p := ⟨gb191, 1, none⟩) (Kd.V_far (p := ⟨gb191, 0, none⟩) (Kd.V_mono HL190_2.out (fun k_ hk => (⟨hk, hk.2⟩ : _ ∧ k_ ≠ gb191))) (fun _ hk => hk.2) (.int .i64 ((rd_T50 l0 x10_1).f0))) (fun _ hk => hk.2) (.int .i64 ((rd_T50 l0 x10_1).f1))) (fun _ hk => hk.2) (.slice A190_2 ((rd_T50 l0 x10_1).f2).length c190_2)) (fun _ hk => hk.2) (.slice A190_3 ((rd_T50 l0 x10_1).f3).length c190_3)) (fun _ hk => ⟨hk.1.1.1, ⟨hk.1.1.2, hk.1.2⟩⟩)⟩
              have n3_ : Aside0 (Kd.V k27 27 ((((w12.setCell ⟨gb191, 0, none⟩ (.int .i64 ((rd_T50 l0 x10_1).f0))).setCell ⟨gb191, 1, none⟩ (.int .i64 ((rd_T50 l0 x10_1).f1))).setCell ⟨gb191, 2, none⟩ (.slice A190_2 ((rd_T50 l0 x10_1).f2).length c190_2)).setCell ⟨gb191, 3, none⟩ (.slice A190_3 ((rd_T50 l0 x10_1).f3).length c190_3)) w.heap.size (fun k_ => (P0_ k_ ∨ w.heap.size ≤ k_) ∧ some k_ ≠ (v188 : Value).ownBlock ∧ k_ ≠ gb191) (.slice A190_3 ((rd_T50 l0 x10_1).f3).length c190_3) ((rd_T50 l0 x10_1).f3)) := ⟨by (with_reducible repeat (first | apply Kd.V_alloc | apply Kd.V_drewN | apply Kd.V_drew)); exact Kd.V_mono (Kd.V_far (p := ⟨gb191, 3, none⟩) (Kd.V_far (p := ⟨gb191, 2, none⟩) (Kd.V_far (p := ⟨gb191, 1, none⟩) (Kd.V_far (p := ⟨gb191, 0, none⟩) (Kd.V_mono HL190_3.out (fun k_ hk => (⟨hk, hk.2⟩ : _ ∧ k_ ≠ gb191))) (fun _ hk => hk.2) (.int .i64 ((rd_T50 l0 x10_1).f0))) (fun _ hk => hk.2) (.int .i64 ((rd_T50 l0 x10_1).f1))) (fun _ hk => hk.2) (.slice A190_2 ((rd_T50 l0 x10_1).f2).length c190_2)) (fun _ hk => hk.2) (.slice A190_3 ((rd_T50 l0 x10_1).f3).length c190_3)) (fun _ hk => ⟨hk.1.1.1, ⟨hk.1.1.2, hk.1.2⟩⟩)⟩
              have n4_ : Aside0 (((((w12.setCell ⟨gb191, 0, none⟩ (.int .i64 ((rd_T50 l0 x10_1).f0))).setCell ⟨gb191, 1, none⟩ (.int .i64 ((rd_T50 l0 x10_1).f1))).setCell ⟨gb191, 2, none⟩ (.slice A190_2 ((rd_T50 l0 x10_1).f2).length c190_2)).setCell ⟨gb191, 3, none⟩ (.slice A190_3 ((rd_T50 l0 x10_1).f3).length c190_3)).heap[gb191]? = some (.cells #[.int .i64 ((rd_T50 l0 x10_1).f0), .int .i64 ((rd_T50 l0 x10_1).f1), .slice A190_2 ((rd_T50 l0 x10_1).f2).length c190_2, .slice A190_3 ((rd_T50 l0 x10_1).f3).length c190_3] 50 (0, 0))) := ⟨by (with_reducible repeat (first | refine blk_drewN ?_ _ | refine blk_drew ?_ | refine blk_alloc ?_ _)); refine blk_put (cs := #[.int .i64 ((rd_T50 l0 x10_1).f0), .int .i64 ((rd_T50 l0 x10_1).f1), .slice A190_2 ((rd_T50 l0 x10_1).f2).length c190_2, .slice none 0 0]) ?_ 3 _ rfl; (with_reducible repeat (first | refine blk_drewN ?_ _ | refine blk_drew ?_ | refine blk_alloc ?_ _)); refine blk_put (cs := #[.int .i64 ((rd_T50 l0 x10_1).f0), .int .i64 ((rd_T50 l0 x10_1).f1), .slice none 0 0, .slice none 0 0]) ?_ 2 _ rfl; (with_reducible repeat (first | refine blk_drewN ?_ _ | refine blk_drew ?_ | refine blk_alloc ?_ _)); refine blk_put (cs := #[.int .i64 ((rd_T50 l0 x10_1).f0), .int .i64 0, .slice none 0 0, .slice none 0 0]) ?_ 1 _ rfl; (with_reducible repeat (first | refine blk_drewN ?_ _ | refine blk_drew ?_ | refine blk_alloc ?_ _)); refine blk_put (cs := #[.int .i64 0, .int .i64 0, .slice none 0 0, .slice none 0 0]) ?_ 0 _ rfl; (with_reducible repeat (first | refine blk_drewN ?_ _ | refine blk_drew ?_ | refine blk_alloc ?_ _)); exact BK191.out⟩
              have n5_ : Aside0 (Below w.heap.size w ((((w12.setCell ⟨gb191, 0, none⟩ (.int .i64 ((rd_T50 l0 x10_1).f0))).setCell ⟨gb191, 1, none⟩ (.int .i64 ((rd_T50 l0 x10_1).f1))).setCell ⟨gb191, 2, none⟩ (.slice A190_2 ((rd_T50 l0 x10_1).f2).length c190_2)).setCell ⟨gb191, 3, none⟩ (.slice A190_3 ((rd_T50 l0 x10_1).f3).length c190_3))) := ⟨by repeat (first | (with_reducible first | exact HB.out | apply below_alloc | apply pw_below_drewN | apply below_drew1 | refine below_set ?_ GE191.out) | exact HB.out)⟩
              (try clear HO_3)
              (try clear HO_8)
              (try clear HL190_2)
              (try clear HL190_3)
              (try clear BK191)
              (try clear HB)
              generalize ((((w12.setCell ⟨gb191, 0, none⟩ (.int .i64 ((rd_T50 l0 x10_1).f0))).setCell ⟨gb191, 1, none⟩ (.int .i64 ((rd_T50 l0 x10_1).f1))).setCell ⟨gb191, 2, none⟩ (.slice A190_2 ((rd_T50 l0 x10_1).f2).length c190_2)).setCell ⟨gb191, 3, none⟩ (.slice A190_3 ((rd_T50 l0 x10_1).f3).length c190_3)) = w14 at n0_ n1_ n2_ n3_ n4_ n5_ ⊢
              have HO_3 := n0_
              have HO_8 := n1_
              have HL190_2 := n2_
              have HL190_3 := n3_
              have BK191 := n4_
              have HB := n5_
              clear n0_ n1_ n2_ n3_ n4_ n5_
              have n0_ := Aside0.mk (Kd.N_drew HO_3.out)
              have n1_ := Aside0.mk (Kd.V_drew HO_8.out)
              have n2_ := Aside0.mk (Kd.V_drew HL190_2.out)
              have n3_ := Aside0.mk (Kd.V_drew HL190_3.out)
              have n4_ := Aside0.mk (blk_drew BK191.out)
              have n5_ := Aside0.mk (below_drew1 HB.out)
              clear HO_3
              clear HO_8
              clear HL190_2
              clear HL190_3
              clear BK191
              clear HB
              have HO_3 := n0_
              have HO_8 := n1_
              have HL190_2 := n2_
              have HL190_3 := n3_
              have BK191 := n4_
              have HB := n5_
              clear n0_ n1_ n2_ n3_ n4_ n5_
              refine start_ (n := 16) (S := fun w' => w'.cell? ⟨gb191, 0, none⟩ = some (.int .i64 ((rd_T50 l0 x10_1).f0)) ∧ w'.cell? ⟨gb191, 1, none⟩ = some (.int .i64 ((rd_T50 l0 x10_1).f1)) ∧ w'.cell? ⟨gb191, 2, none⟩ = some (.slice A190_2 ((rd_T50 l0 x10_1).f2).length c190_2) ∧ w'.cell? ⟨gb191, 3, none⟩ = some (.slice A190_3 ((rd_T50 l0 x10_1).f3).length c190_3)) (ds := [12, 15]) #[false, false, false, false, false, false, false, false, false, false, false, false, false, false, false, false] (by kernel_rfl) rfl rfl ⟨(blk_cell BK191.out 0).trans rfl, (blk_cell BK191.out 1).trans rfl, (blk_cell BK191.out 2).trans rfl, (blk_cell BK191.out 3).trans rfl⟩ (fun hHeld => ?_); refine with_tabW leave_own.tab5 leave_own.bits5 (fun HT_ HW_ => ?_)
              generalize w14.drew = w15 at HO_3 HO_8 HL190_2 HL190_3 BK191 HB hHeld ⊢
              refine pure_ (i := 0) (N := some 15) (v := ?_) (a' := ?_) #[true, false, false, false, false, false, false, false, false, false, false, false, false, false, false, false] rfl rfl (any_of HT_.out (by kernel_rfl)) (fun _ _ _ h => h) (Or.inl ⟨by rfl, ?_⟩) ?_ ?_
              rotate_left
              · intro w'
                go_simp
                with_reducible rfl
              rotate_left
              · simp only [Act.put, List.setIfInBounds_toArray, List.set_cons_zero, List.set_cons_succ, i64_w, i32_w]
                rfl
              refine pure_ (i := 1) (N := some 16) (v := ?_) (a' := ?_) #[true, true, false, false, false, false, false, false, false, false, false, false, false, false, false, false] rfl rfl (any_of HT_.out (by kernel_rfl)) (fun _ _ _ h => h) (Or.inl ⟨by rfl, ?_⟩) ?_ ?_
              rotate_left
              · intro w'
                go_simp
                with_reducible rfl
              rotate_left
              · simp only [Act.put, List.setIfInBounds_toArray, List.set_cons_zero, List.set_cons_succ, i64_w, i32_w]
                rfl
              refine pure_ (i := 2) (N := some 17) (v := ?_) (a' := ?_) #[true, true, true, false, false, false, false, false, false, false, false, false, false, false, false, false] rfl rfl (any_of HT_.out (by kernel_rfl)) (fun _ _ _ h => h) (Or.inl ⟨by rfl, ?_⟩) ?_ ?_
              rotate_left
              · intro w'
                go_simp
                with_reducible rfl
              rotate_left
              · simp only [Act.put, List.setIfInBounds_toArray, List.set_cons_zero, List.set_cons_succ, i64_w, i32_w]
                rfl
              refine pure_ (i := 3) (N := some 18) (v := ?_) (a' := ?_) #[true, true, true, true, false, false, false, false, false, false, false, false, false, false, false, false] rfl rfl (any_of HT_.out (by kernel_rfl)) (fun _ _ _ h => h) (Or.inl ⟨by rfl, ?_⟩) ?_ ?_
              rotate_left
              · intro w'
                go_simp
                with_reducible rfl
              rotate_left
              · simp only [Act.put, List.setIfInBounds_toArray, List.set_cons_zero, List.set_cons_succ, i64_w, i32_w]
                rfl
              refine pure_ (i := 4) (N := some 19) (v := ?_) (a' := ?_) #[true, true, true, true, true, false, false, false, false, false, false, false, false, false, false, false] rfl rfl (any_of HT_.out (by kernel_rfl)) (fun _ _ _ h => h) (Or.inl ⟨by rfl, ?_⟩) ?_ ?_
              rotate_left
              · intro w'
                go_simp
                with_reducible rfl
              rotate_left
              · simp only [Act.put, List.setIfInBounds_toArray, List.set_cons_zero, List.set_cons_succ, i64_w, i32_w]
                rfl
              refine pure_ (i := 7) (N := some 22) (v := ?_) (a' := ?_) #[true, true, true, true, true, false, false, true, false, false, false, false, false, false, false, false] rfl rfl (any_of HT_.out (by kernel_rfl)) (fun _ _ _ h => h) (Or.inl ⟨by rfl, ?_⟩) ?_ ?_
              rotate_left
              · intro w'
                go_simp
                with_reducible rfl
              rotate_left
              · simp only [Act.put, List.setIfInBounds_toArray, List.set_cons_zero, List.set_cons_succ, i64_w, i32_w]
                rfl
              refine take_ (i := 5) (N := some 20) (v := ?_) (a' := ?_) #[true, true, true, true, true, true, false, true, false, false, false, false, false, false, false, false] rfl rfl (take_ofW HT_.out HW_.out (by kernel_rfl)) (fun _ _ _ h => h) (Or.inl ⟨by rfl, ?_⟩) hHeld ?_ ?_
              rotate_left
              · rintro w' ⟨s0, s1, s2, s3⟩
                go_simp
                with_reducible rfl
              rotate_left
              · simp only [Act.put, List.setIfInBounds_toArray, List.set_cons_zero, List.set_cons_succ, i64_w, i32_w]
                rfl
              refine take_ (i := 8) (N := some 23) (v := ?_) (a' := ?_) #[true, true, true, true, true, true, false, true, true, false, false, false, false, false, false, false] rfl rfl (take_ofW HT_.out HW_.out (by kernel_rfl)) (fun _ _ _ h => h) (Or.inl ⟨by rfl, ?_⟩) hHeld ?_ ?_
              rotate_left
              · rintro w' ⟨s0, s1, s2, s3⟩
                go_simp
                with_reducible rfl
              rotate_left
              · simp only [Act.put, List.setIfInBounds_toArray, List.set_cons_zero, List.set_cons_succ, i64_w, i32_w]
                rfl
              refine one_ (i := 6) (N := some 21) #[true, true, true, true, true, true, true, true, true, false, false, false, false, false, false, false] rfl rfl (one_of HT_.out (by kernel_rfl)) (by decide) (fun K hK => ?_)
              refine goes_ Try.func40 (by kernel_rfl) rfl #[.slice A190_2 ((rd_T50 l0 x10_1).f2).length c190_2] (by rfl) rfl rfl (by (try simp only [List.map_toArray, List.map_cons, List.map_nil]); first | done | rfl | (simp only [List.length_drop, List.length_take]; rfl)) ?_
              with_reducible refine (api_Val_40.calls _ _ ((rd_T50 l0 x10_1).f2) t192 _ ?side1 ?side2 A7.out).mono ?_
              (case side1 => repeat (first | exact ((Kd.V_reads' (by (with_reducible repeat (first | apply Kd.V_alloc | apply Kd.V_drewN | apply Kd.V_drew)); exact HL190_2.out)).2.2) | (with_reducible refine Kd.C_alloc ?_ _) | (with_reducible refine Kd.C_drewN ?_ _) | (with_reducible refine Kd.C_drew ?_)))
              (case side2 => exact HC190_2.out)
              rintro e w16 ⟨v193, rfl, ho0, hb⟩
              refine ⟨_, rfl, ?_⟩
              have n0_ := Aside0.mk (Kd.N_elder' (by (with_reducible repeat (first | apply Kd.N_alloc | apply Kd.N_drewN | apply Kd.N_drew)); exact HO_3.out) (Kd.R_base ho0) hb)
              have n1_ := Aside0.mk (Kd.V_elder' (by (with_reducible repeat (first | apply Kd.V_alloc | apply Kd.V_drewN | apply Kd.V_drew)); exact HO_8.out) (Kd.R_base ho0) hb)
              have n2_ := Aside0.mk (Kd.V_elder' (by (with_reducible repeat (first | apply Kd.V_alloc | apply Kd.V_drewN | apply Kd.V_drew)); exact HL190_2.out) (Kd.R_base ho0) hb)
              have n3_ := Aside0.mk (Kd.V_elder' (by (with_reducible repeat (first | apply Kd.V_alloc | apply Kd.V_drewN | apply Kd.V_drew)); exact HL190_3.out) (Kd.R_base ho0) hb)
              have n4_ := Aside0.mk (Kd.R_lower (Kd.R_newM (M := fun k_ => (w.heap.size ≤ k_)) ho0 (below_size (by repeat (first | (with_reducible first | exact HB.out | apply below_alloc | apply pw_below_drewN | apply below_drew1 | refine below_set ?_ GE191.out) | exact HB.out))) (fun k_ h_ => h_)) (below_size (by repeat (first | (with_reducible first | exact HB.out | apply below_alloc | apply pw_below_drewN | apply below_drew1 | refine below_set ?_ GE191.out) | exact HB.out))))
              have n5_ := Aside0.mk (blk_below (g := gb191) (o := .cells #[.int .i64 ((rd_T50 l0 x10_1).f0), .int .i64 ((rd_T50 l0 x10_1).f1), .slice A190_2 ((rd_T50 l0 x10_1).f2).length c190_2, .slice A190_3 ((rd_T50 l0 x10_1).f3).length c190_3] 50 (0, 0)) (by (with_reducible repeat (first | refine blk_drewN ?_ _ | refine blk_drew ?_ | refine blk_alloc ?_ _)); exact BK191.out) hb)
              have n6_ := Aside0.mk (below_step (by repeat (first | (with_reducible first | exact HB.out | apply below_alloc | apply pw_below_drewN | apply below_drew1 | refine below_set ?_ GE191.out) | exact HB.out)) hb)
              clear HO_3
              clear HO_8
              clear HL190_2
              clear HL190_3
              clear BK191
              clear HB
              have HO_3 := n0_
              have HO_8 := n1_
              have HL190_2 := n2_
              have HL190_3 := n3_
              have HO194 := n4_
              have BK191 := n5_
              have HB := n6_
              clear n0_ n1_ n2_ n3_ n4_ n5_ n6_
              (try clear hb)
              (try clear hb2)
              (try clear hk)
              (try clear hi)
              (try clear ho0)
              refine hK.out _ _ ⟨(blk_cell BK191.out 0).trans rfl, (blk_cell BK191.out 1).trans rfl, (blk_cell BK191.out 2).trans rfl, (blk_cell BK191.out 3).trans rfl⟩ (fun hHeld => ?_)
              clear hK K
              refine norm_ (a' := ?_) ?_ ?_
              rotate_left
              · show Act.put _ (some 21) _ = _
                simp only [Act.put, List.setIfInBounds_toArray, List.set_cons_zero, List.set_cons_succ, i64_w, i32_w]
                rfl
              refine one_ (i := 9) (N := some 24) #[true, true, true, true, true, true, true, true, true, true, false, false, false, false, false, false] rfl rfl (one_of HT_.out (by kernel_rfl)) (by decide) (fun K hK => ?_)
              refine goes_ Try.func46 (by kernel_rfl) rfl #[.slice A190_3 ((rd_T50 l0 x10_1).f3).length c190_3] (by rfl) rfl rfl (by (try simp only [List.map_toArray, List.map_cons, List.map_nil]); first | done | rfl | (simp only [List.length_drop, List.length_take]; rfl)) ?_
              with_reducible refine (leave_frames.calls k1 (fun k_ => (((P0_ k_ ∨ w.heap.size ≤ k_) ∧ (some k_ ≠ (v188 : Value).ownBlock ∧ k_ ≠ gb191)) ∧ some k_ ≠ (v193 : Value).ownBlock)) _ _ ((rd_T50 l0 x10_1).f3) t195 _ ?side1 A8.out).mono ?_
              (case side1 => exact HL190_3.out)
              rintro e w17 ⟨v196, rfl, ho0, hb⟩
              refine ⟨_, rfl, ?_⟩
              have n0_ := Aside0.mk (Kd.N_elder' (by (with_reducible repeat (first | apply Kd.N_alloc | apply Kd.N_drewN | apply Kd.N_drew)); exact HO_3.out) (Kd.N_base ho0) hb)
              have n1_ := Aside0.mk (Kd.V_elder' (by (with_reducible repeat (first | apply Kd.V_alloc | apply Kd.V_drewN | apply Kd.V_drew)); exact HO_8.out) (Kd.N_base ho0) hb)
              have n2_ := Aside0.mk (Kd.V_elder' (by (with_reducible repeat (first | apply Kd.V_alloc | apply Kd.V_drewN | apply Kd.V_drew)); exact HL190_2.out) (Kd.N_base ho0) hb)
              have n3_ := Aside0.mk (Kd.V_elder' (by (with_reducible repeat (first | apply Kd.V_alloc | apply Kd.V_drewN | apply Kd.V_drew)); exact HL190_3.out) (Kd.N_base ho0) hb)
              have n4_ := Aside0.mk (Kd.R_below (by (with_reducible repeat (first | apply Kd.R_alloc | apply Kd.R_drewN | apply Kd.R_drew)); exact HO194.out) hb)
              have n5_ := Aside0.mk (Kd.N_lower (Kd.N_mono (ok' := fun k_ => (P0_ k_ ∨ w.heap.size ≤ k_) ∧ some k_ ≠ (v188 : Value).ownBlock ∧ some k_ ≠ (v193 : Value).ownBlock ∧ k_ ≠ gb191) ho0 (fun k_ hk_ => ⟨Or.elim hk_ (fun hs_ => hs_.1.1) (fun hn_ => (.inr (Nat.le_trans (below_size (by repeat (first | (with_reducible first | exact HB.out | apply below_alloc | apply pw_below_drewN | apply below_drew1 | refine below_set ?_ GE191.out) | exact HB.out))) hn_))), Or.elim hk_ (fun hs_ => hs_.1.2.1) (fun hn_ => (Kd.fresh' (Kd.N_lt (by (with_reducible repeat (first | apply Kd.N_alloc | apply Kd.N_drewN | apply Kd.N_drew)); exact HO_3.out)) k_ hn_)), Or.elim hk_ (fun hs_ => hs_.2) (fun hn_ => (Kd.fresh' (Kd.R_lt (by (with_reducible repeat (first | apply Kd.R_alloc | apply Kd.R_drewN | apply Kd.R_drew)); exact HO194.out)) k_ hn_)), Or.elim hk_ (fun hs_ => hs_.1.2.2) (fun hn_ => (Kd.freshB (g := gb191) (o := .cells #[.int .i64 ((rd_T50 l0 x10_1).f0), .int .i64 ((rd_T50 l0 x10_1).f1), .slice A190_2 ((rd_T50 l0 x10_1).f2).length c190_2, .slice A190_3 ((rd_T50 l0 x10_1).f3).length c190_3] 50 (0, 0)) (by (with_reducible repeat (first | refine blk_drewN ?_ _ | refine blk_drew ?_ | refine blk_alloc ?_ _)); exact BK191.out) k_ hn_))⟩)) (below_size (by repeat (first | (with_reducible first | exact HB.out | apply below_alloc | apply pw_below_drewN | apply below_drew1 | refine below_set ?_ GE191.out) | exact HB.out))))
              have n6_ := Aside0.mk (blk_below (g := gb191) (o := .cells #[.int .i64 ((rd_T50 l0 x10_1).f0), .int .i64 ((rd_T50 l0 x10_1).f1), .slice A190_2 ((rd_T50 l0 x10_1).f2).length c190_2, .slice A190_3 ((rd_T50 l0 x10_1).f3).length c190_3] 50 (0, 0)) (by (with_reducible repeat (first | refine blk_drewN ?_ _ | refine blk_drew ?_ | refine blk_alloc ?_ _)); exact BK191.out) hb)
              have n7_ := Aside0.mk (below_step (by repeat (first | (with_reducible first | exact HB.out | apply below_alloc | apply pw_below_drewN | apply below_drew1 | refine below_set ?_ GE191.out) | exact HB.out)) hb)
              clear HO_3
              clear HO_8
              clear HL190_2
              clear HL190_3
              clear HO194
              clear BK191
              clear HB
              have HO_3 := n0_
              have HO_8 := n1_
              have HL190_2 := n2_
              have HL190_3 := n3_
              have HO194 := n4_
              have HO197 := n5_
              have BK191 := n6_
              have HB := n7_
              clear n0_ n1_ n2_ n3_ n4_ n5_ n6_ n7_
              (try clear hb)
              (try clear hb2)
              (try clear hk)
              (try clear hi)
              (try clear ho0)
              have p10 : 0 ≤ (x10_1 : Int) := of_decide_eq_true (by first | (with_reducible assumption) | assumption)
              have q10 : (x10_1 : Int) < ((x3_1.length : Int) : Int) := of_decide_eq_true (by first | (with_reducible assumption) | assumption)
              obtain ⟨go10, co10, eo10, gb10, gl10, cl10, HG10⟩ := Kd.N_form HO_3.out (by omega)
              (first | cases eo10 | (injection eo10 with ea_ en_ ec_; (first | subst ea_ | (injection ea_ with ea_; subst ea_)); subst ec_; clear en_))
              have GB10 := Aside0.mk gb10
              have GG10 := Aside0.mk HG10
              clear gb10 gl10 HG10
              obtain ⟨ce10, hcl10, hM10, hcc10, hfr10⟩ := Kd.N_elem HO_3.out z50 (x10_1 : Int) p10 q10
              obtain ⟨ua10_2, uc10_2, ua10_3, uc10_3, rfl, ul10_2, ge10_2, ul10_3, ge10_3⟩ := k50_openF hM10
              have hx10_0 : World.cell? _ ⟨go10, (x10_1 : Int).toNat * 4, none⟩ = some (.int .i64 ((rd_T50 x3_1 x10_1).f0)) := hcc10 0 _ rfl
              have hx10_1 : World.cell? _ ⟨go10, (x10_1 : Int).toNat * 4 + 1, none⟩ = some (.int .i64 ((rd_T50 x3_1 x10_1).f1)) := hcc10 1 _ rfl
              have hx10_2 : World.cell? _ ⟨go10, (x10_1 : Int).toNat * 4 + 2, none⟩ = some (.slice ua10_2 ((rd_T50 x3_1 x10_1).f2).length uc10_2) := hcc10 2 _ rfl
              have hx10_3 : World.cell? _ ⟨go10, (x10_1 : Int).toNat * 4 + 3, none⟩ = some (.slice ua10_3 ((rd_T50 x3_1 x10_1).f3).length uc10_3) := hcc10 3 _ rfl
              have hf10_0 : World.frozen? _ ⟨go10, (x10_1 : Int).toNat * 4, none⟩ = false := hfr10 0
              have hf10_1 : World.frozen? _ ⟨go10, (x10_1 : Int).toNat * 4 + 1, none⟩ = false := hfr10 1
              have hf10_2 : World.frozen? _ ⟨go10, (x10_1 : Int).toNat * 4 + 2, none⟩ = false := hfr10 2
              have hf10_3 : World.frozen? _ ⟨go10, (x10_1 : Int).toNat * 4 + 3, none⟩ = false := hfr10 3
              clear hcl10 hcc10 hfr10 hM10
              replace p10 := eq_true p10
              replace q10 := eq_true q10
              obtain ⟨Ao19, co19, eo19⟩ := Kd.R_slice HO194.out
              (first | subst eo19 | (injection eo19 with f1_ f2_ f3_; have f4_ := f1_.symm; have f5_ := f3_.symm; clear f1_ f2_ f3_; subst f4_; subst f5_))
              have HX18 := Aside0.mk (show Kd.N k50 50 _ w.heap.size (fun k_ => (P0_ k_ ∨ w.heap.size ≤ k_) ∧ some k_ ≠ (.slice Ao19 t192.length co19 : Value).ownBlock ∧ some k_ ≠ (v196 : Value).ownBlock ∧ k_ ≠ gb191) (.slice (some ⟨go10, 0, none⟩) x3_1.length co10) x3_1 from (Kd.N_mono (HO_3.out) (fun k_ hk => ⟨hk.1.1.1, ⟨hk.1.2, ⟨hk.2, hk.1.1.2⟩⟩⟩)))
              replace HX18 := Aside0.mk (show Kd.N k50 50 _ w.heap.size (fun k_ => (P0_ k_ ∨ w.heap.size ≤ k_) ∧ some k_ ≠ (v196 : Value).ownBlock ∧ k_ ≠ gb191) (.slice (some ⟨go10, 0, none⟩) x3_1.length co10) x3_1 from Kd.N_mono HX18.out (fun k_ hk => ⟨hk.1, ⟨hk.2.2.1, hk.2.2.2⟩⟩))
              have HFa20 := Kd.R_types (Kd.R_apart' (Kd.R_apart' (HO194.out) (Kd.N_typed HO197.out) (by decide)) (Kd.N_typed HO_3.out) (by decide)) BK191.out (by decide)
              have HFb20 := Aside0.mk (Kd.R_mono (ok' := (fun k_ => ((fun k_ => (P0_ k_ ∨ w.heap.size ≤ k_) ∧ some k_ ≠ (v196 : Value).ownBlock ∧ k_ ≠ gb191)) k_ ∧ k_ ≠ go10)) HFa20 (fun k_ hk => ⟨⟨(.inr (hk.1.1.1.1)), ⟨hk.1.1.2, hk.2⟩⟩, fun e_ => (hk.1.2) (by rw [e_]; rfl)⟩))
              clear HFa20
              obtain ⟨ce18, hcl18, hM18, hcc18, hfr18⟩ := Kd.N_elem HX18.out z50 (x10_1 : Int) (of_decide_eq_true (by first | (with_reducible assumption) | assumption)) (by have h_ : (x10_1 : Int) < ((x3_1.length : Int) : Int) := of_decide_eq_true (by first | (with_reducible assumption) | assumption); first | exact h_ | (have e_ := (Kd.N_reads' HO_3.out).1; omega) | simpa using h_)
              obtain ⟨ua18_2, uc18_2, ua18_3, uc18_3, rfl, ul18_2, ge18_2, ul18_3, ge18_3⟩ := k50_openF hM18
              have HG18_ := Kd.N_seg HX18.out (x10_1 : Int) (of_decide_eq_true (by first | (with_reducible assumption) | assumption)) (by have h_ : (x10_1 : Int) < ((x3_1.length : Int) : Int) := of_decide_eq_true (by first | (with_reducible assumption) | assumption); first | exact h_ | (have e_ := (Kd.N_reads' HO_3.out).1; omega) | simpa using h_) (seg := [.slice Ao19 t192.length co19]) (j := 2) hcl18 hcc18 (show 3 ≤ 4 from by decide) (x' := (⟨(rd_T50 x3_1 x10_1).f0, (rd_T50 x3_1 x10_1).f1, t192, (rd_T50 x3_1 x10_1).f3⟩ : S50)) (by exact (k50_mkF _ _ (⟨(rd_T50 x3_1 x10_1).f0, (rd_T50 x3_1 x10_1).f1, t192, (rd_T50 x3_1 x10_1).f3⟩ : S50) (Kd.R_reads' HFb20.out).2.1 (Kd.R_F HFb20.out) ul18_3 ge18_3)) (fun _ hk => hk)
              have HP18 := HG18_.1
              replace HG18_ := HG18_.2
              have HG18 := Aside0.mk HG18_
              clear HG18_
              rw [← Ny198.out] at HP18
              have HQ18 := Aside0.mk HP18
              clear hcl18 hcc18 hfr18 hM18 HP18
              have p11 : 0 ≤ (x10_1 : Int) := of_decide_eq_true (by first | (with_reducible assumption) | assumption)
              have q11 : (x10_1 : Int) < ((x3_1.length : Int) : Int) := of_decide_eq_true (by first | (with_reducible assumption) | assumption)
              replace p11 := eq_true p11
              replace q11 := eq_true q11
              obtain ⟨Ao22, co22, eo22⟩ := Kd.N_slice HO197.out
              (first | subst eo22 | (injection eo22 with f1_ f2_ f3_; have f4_ := f1_.symm; have f5_ := f3_.symm; clear f1_ f2_ f3_; subst f4_; subst f5_))
              have HX21 := Aside0.mk (show Kd.N k50 50 _ w.heap.size (fun k_ => (P0_ k_ ∨ w.heap.size ≤ k_) ∧ some k_ ≠ (.slice Ao22 t195.length co22 : Value).ownBlock ∧ k_ ≠ gb191) (.slice (some ⟨go10, 0, none⟩) x3_1.length co10) y198 from (Kd.N_mono (HQ18.out) (fun k_ hk => ⟨hk.1, ⟨hk.2.1, hk.2.2⟩⟩)))
              replace HX21 := Aside0.mk (show Kd.N k50 50 _ w.heap.size (fun k_ => (P0_ k_ ∨ w.heap.size ≤ k_) ∧ k_ ≠ gb191) (.slice (some ⟨go10, 0, none⟩) x3_1.length co10) y198 from Kd.N_mono HX21.out (fun k_ hk => ⟨hk.1, hk.2.2⟩))
              have HFa23 := HO197.out
              have HFb23 := Kd.N_mono (ok' := fun k_ => ((fun k_ => ((fun k_ => (P0_ k_ ∨ w.heap.size ≤ k_) ∧ k_ ≠ gb191)) k_ ∧ k_ ≠ go10)) k_ ∧ some k_ ≠ (.slice (some ⟨go10, 0, none⟩) x3_1.length co10 : Value).ownBlock) HFa23 (fun k_ hk => ⟨⟨⟨hk.1, hk.2.2.2⟩, fun e_ => (hk.2.1) (by rw [e_]; rfl)⟩, hk.2.1⟩)
              have HFc23 := Aside0.mk (Kd.N_afterv (v := .slice (some ⟨go10, 0, none⟩) x3_1.length co10) (v1 := .slice (some ⟨go10, 0, none⟩) x3_1.length co10) HFb23 HG18.out (.inl rfl))
              clear HFa23 HFb23
              have HFa24 := HFc23.out
              have HFb24 := Aside0.mk (Kd.N_mono (ok' := (fun k_ => ((fun k_ => (P0_ k_ ∨ w.heap.size ≤ k_) ∧ k_ ≠ gb191)) k_ ∧ k_ ≠ go10)) HFa24 (fun k_ hk => hk.1))
              clear HFa24
              obtain ⟨ce21, hcl21, hM21, hcc21, hfr21⟩ := Kd.N_elem HX21.out z50 (x10_1 : Int) (of_decide_eq_true (by first | (with_reducible assumption) | assumption)) (by have h_ : (x10_1 : Int) < ((x3_1.length : Int) : Int) := of_decide_eq_true (by first | (with_reducible assumption) | assumption); first | exact h_ | (have e_ := (Kd.N_reads' HO_3.out).1; omega) | simpa using h_)
              obtain ⟨ua21_2, uc21_2, ua21_3, uc21_3, rfl, ul21_2, ge21_2, ul21_3, ge21_3⟩ := k50_openF hM21
              have HG21_ := Kd.N_seg HX21.out (x10_1 : Int) (of_decide_eq_true (by first | (with_reducible assumption) | assumption)) (by have h_ : (x10_1 : Int) < ((x3_1.length : Int) : Int) := of_decide_eq_true (by first | (with_reducible assumption) | assumption); first | exact h_ | (have e_ := (Kd.N_reads' HO_3.out).1; omega) | simpa using h_) (seg := [.slice Ao22 t195.length co22]) (j := 3) hcl21 hcc21 (show 4 ≤ 4 from by decide) (x' := (⟨(rd_T50 y198 x10_1).f0, (rd_T50 y198 x10_1).f1, (rd_T50 y198 x10_1).f2, t195⟩ : S50)) (by exact (k50_mkF _ _ (⟨(rd_T50 y198 x10_1).f0, (rd_T50 y198 x10_1).f1, (rd_T50 y198 x10_1).f2, t195⟩ : S50) ul21_2 ge21_2 (Kd.N_reads' HFb24.out).2.1 (Kd.N_F HFb24.out))) (fun _ hk => hk)
              have HP21 := HG21_.1
              replace HG21_ := HG21_.2
              have HG21 := Aside0.mk HG21_
              clear HG21_
              rw [← Ny199.out] at HP21
              have HQ21 := Aside0.mk HP21
              clear hcl21 hcc21 hfr21 hM21 HP21
              refine hK.out _ _ ⟨(blk_cell BK191.out 0).trans rfl, (blk_cell BK191.out 1).trans rfl, (blk_cell BK191.out 2).trans rfl, (blk_cell BK191.out 3).trans rfl⟩ (fun hHeld => ?_)
              clear hK K
              refine norm_ (a' := ?_) ?_ ?_
              rotate_left
              · show Act.put _ (some 24) _ = _
                simp only [Act.put, List.setIfInBounds_toArray, List.set_cons_zero, List.set_cons_succ, i64_w, i32_w]
                rfl
              refine pure_ (i := 10) (N := some 25) (v := ?_) (a' := ?_) #[true, true, true, true, true, true, true, true, true, true, true, false, false, false, false, false] rfl rfl (any_of HT_.out (by kernel_rfl)) (fun _ _ _ h => h) (Or.inl ⟨by rfl, ?_⟩) ?_ ?_
              rotate_left
              · intro w'
                go_simp
                with_reducible rfl
              rotate_left
              · simp only [Act.put, List.setIfInBounds_toArray, List.set_cons_zero, List.set_cons_succ, i64_w, i32_w]
                rfl
              refine pure_ (i := 11) (N := some 26) (v := ?_) (a' := ?_) #[true, true, true, true, true, true, true, true, true, true, true, true, false, false, false, false] rfl rfl (any_of HT_.out (by kernel_rfl)) (fun _ _ _ h => h) (Or.inl ⟨by rfl, ?_⟩) ?_ ?_
              rotate_left
              · intro w'
                go_simp
                with_reducible rfl
              rotate_left
              · simp only [Act.put, List.setIfInBounds_toArray, List.set_cons_zero, List.set_cons_succ, i64_w, i32_w]
                rfl
              refine last_ (i := 12) (N := none) #[true, true, true, true, true, true, true, true, true, true, true, true, true, false, false, false] rfl rfl (one_of HT_.out (by kernel_rfl)) (by decide) (fun K hK => ?_)
              refine skip_ (w1 := ?_) (by rfl) rfl ?_ ?_
              rotate_left
              · go_simp
                rfl
              refine hK.out _ _ ?_
              clear hK K
              refine pure_ (i := 13) (N := some 27) (v := ?_) (a' := ?_) #[true, true, true, true, true, true, true, true, true, true, true, true, true, true, false, false] rfl rfl (any_of HT_.out (by kernel_rfl)) (fun _ _ _ h => h) (Or.inl ⟨by rfl, ?_⟩) ?_ ?_
              rotate_left
              · intro w'
                go_simp
                with_reducible rfl
              rotate_left
              · simp only [Act.put, List.setIfInBounds_toArray, List.set_cons_zero, List.set_cons_succ, i64_w, i32_w]
                rfl
              refine pure_ (i := 14) (N := some 28) (v := ?_) (a' := ?_) #[true, true, true, true, true, true, true, true, true, true, true, true, true, true, true, false] rfl rfl (any_of HT_.out (by kernel_rfl)) (fun _ _ _ h => h) (Or.inl ⟨by rfl, ?_⟩) ?_ ?_
              rotate_left
              · intro w'
                go_simp
                with_reducible rfl
              rotate_left
              · simp only [Act.put, List.setIfInBounds_toArray, List.set_cons_zero, List.set_cons_succ, i64_w, i32_w]
                rfl
              refine last_ (i := 15) (N := none) #[true, true, true, true, true, true, true, true, true, true, true, true, true, true, true, true] rfl rfl (one_of HT_.out (by kernel_rfl)) (by decide) (fun K hK => ?_)
              refine skip_ (w1 := ?_) (by rfl) rfl ?_ ?_
              rotate_left
              · go_simp
                rfl
              refine hK.out _ _ ?_
              clear hK K
              refine done_ (done_of HT_.out (by kernel_rfl)) ?_
              try go_wp2
              go_roundg k1
              case measure => have := HK1.out; omega
              case rel => exact ⟨(y199), (wrap64 (x10_1 + 1)), (by first | rfl | (simp; done) | (simp [*]; done)), H', ⟨by have := HK1.out; omega⟩, ⟨by (with_reducible repeat (first | apply Kd.N_alloc | apply Kd.N_drewN | apply Kd.N_drew)); exact Kd.N_mono HQ21.out (fun _ hk => hk.1)⟩, ⟨by (with_reducible repeat (first | apply Kd.V_alloc | apply Kd.V_drewN | apply Kd.V_drew)); exact Kd.V_mono (Kd.V_far (p := ⟨go10, (x10_1 : Int).toNat * 4 + 3, none⟩) (Kd.V_far (p := ⟨go10, (x10_1 : Int).toNat * 4 + 2, none⟩) (Kd.V_mono HO_8.out (fun k_ hk => (⟨hk, fun e_ => hk.1.1.2.1 (by rw [e_]; rfl)⟩ : _ ∧ k_ ≠ go10))) (fun _ hk => hk.2) (.slice Ao19 t192.length co19)) (fun _ hk => hk.2) (.slice Ao22 t195.length co22)) (fun _ hk => ⟨hk.1.1.1.1, hk.1.1.1.2.1⟩)⟩, ⟨by repeat (first | (with_reducible first | exact HB.out | apply below_alloc | apply pw_below_drewN | apply below_drew1 | refine below_set ?_ GB10.out | refine below_set ?_ GB10.out | refine below_set ?_ GE191.out) | exact HB.out)⟩⟩
            · rw [if_neg c9] at H
              exact absurd H (by simp)
          · rw [if_neg c6] at H
            exact absurd H (by simp)
        · rw [if_neg c5] at H
          exact absurd H (by simp)
      · rw [if_neg c4] at H
        have c4b0 : decide (x10_1 < (l0.length : Int)) = false := decide_eq_false c4
        clear c4
        obtain rfl := Option.some.inj H
        go_wp2
        go_ret
        exact ⟨_, by first | rfl | (simp [errW_none, errW_some] <;> rfl) | (simp [*, errW_none, errW_some] <;> rfl), by (with_reducible repeat (first | apply Kd.N_alloc | apply Kd.N_drewN | apply Kd.N_drew)); exact HO_3.out, by repeat (with_reducible first | exact HB.out | apply below_alloc | apply pw_below_drewN | apply below_drew1)⟩

end Go.Proofs.Ytchcbncelckgeaa.PM
