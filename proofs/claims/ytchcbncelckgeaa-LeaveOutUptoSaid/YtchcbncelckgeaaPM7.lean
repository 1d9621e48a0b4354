-- Cut (cut.py): what nobody names is left out.
-- Printed (pr.sh).
import Derived.Test.YtchcbncelckgeaaPM0
import Derived.Test.YtchcbncelckgeaaPM5
import Derived.Test.YtchcbncelckgeaaPM6
import Derived.Lib.SliceRun
namespace Go.Proofs.Ytchcbncelckgeaa.PM
open Go.RowKit Go.Proofs.YtchcbncelckgeaaW.PrintWords Go.Proofs.YtchcbncelckgeaaW.PrintLast Go.Proofs.YtchcbncelckgeaaW.PrintMore
attribute [local go_sem] max2_int min2_int max_two min_two max_three min_three max_four min_four   -- for this text's walks alone
set_option linter.unusedVariables false
set_option linter.unusedSimpArgs false

/-! ### leave_frames: function 46 -/
def leave_frames.l0 : Nat → List (S27) → List (S27) → Int → Int → Option ((List (S27)))
  | 0, _, _, _, _ => none
  | k + 1, x3, x8, x9, x10 => if x10 < x9 then (if 0 ≤ x10 then (if x10 < (x8.length : Int) then ((api_Val_40.f ((rd_T27 x8 x10).f5)).bind fun t183 => ((api_Try_41.f ((rd_T27 x8 x10).f6)).bind fun t186 => (if x10 < (x3.length : Int) then ((some (x3.set (x10 : Int).toNat (⟨(rd_T27 x3 x10).f0, (rd_T27 x3 x10).f1, (rd_T27 x3 x10).f2, (rd_T27 x3 x10).f3, (⟨(rd_T27 x3 x10).f4.f0, (rd_T27 x3 x10).f4.f1⟩ : S23), t183, (rd_T27 x3 x10).f6⟩ : S27) : List (S27))).bind fun y189 => (leave_frames.l0 k (y189.set (x10 : Int).toNat (⟨(rd_T27 y189 x10).f0, (rd_T27 y189 x10).f1, (rd_T27 y189 x10).f2, (rd_T27 y189 x10).f3, (⟨(rd_T27 y189 x10).f4.f0, (rd_T27 y189 x10).f4.f1⟩ : S23), (rd_T27 y189 x10).f5, t186⟩ : S27)) x8 x9 (wrap64 (x10 + 1)))) else (none)))) else (none)) else (none)) else (some x3)
def leave_frames.f (k : Nat) (l0 : List (S27)) : Option ((List (S27))) := (api_Frame.f l0).bind fun t178 => (leave_frames.l0 k t178 l0 (l0.length : Int) 0)
theorem leave_frames.mono_l : ∀ k, (∀ y0 y1 y2 y3, LeO (leave_frames.l0 k y0 y1 y2 y3) (leave_frames.l0 (k + 1) y0 y1 y2 y3))
  | 0 => fun _ _ _ _ r h => by simp [leave_frames.l0] at h
  | k + 1 => by
    have ih0 := leave_frames.mono_l k
    · intro y0 y1 y2 y3
      unfold leave_frames.l0
      repeat' first
      | (with_reducible exact ih0 _ _ _ _)
      | (with_reducible exact LeO.refl _)
      | (with_reducible exact LeO.none _)
      | (with_reducible refine LeO.ite ?_ ?_)
      | (with_reducible refine LeO.bind ?_ (fun _ => ?_))
      | exact ih0 _ _ _ _
      | exact LeO.none _
      | refine LeO.ite ?_ ?_
      | refine LeO.bind ?_ (fun _ => ?_)
theorem leave_frames.mono : ∀ a0 k, LeO (leave_frames.f k a0) (leave_frames.f (k + 1) a0) := by
  intro a0 k
  have ih0 := leave_frames.mono_l k
  unfold leave_frames.f
  repeat' first
      | (with_reducible exact ih0 _ _ _ _)
      | (with_reducible exact LeO.refl _)
      | (with_reducible exact LeO.none _)
      | (with_reducible refine LeO.ite ?_ ?_)
      | (with_reducible refine LeO.bind ?_ (fun _ => ?_))
      | exact ih0 _ _ _ _
      | exact LeO.none _
      | refine LeO.ite ?_ ?_
      | refine LeO.bind ?_ (fun _ => ?_)
def leave_frames.T5 : Bool × List (List Nat × List Nat) := (true, [([], []), ([], []), ([], []), ([], []), ([], []), ([4], [4]), ([5], [5]), ([], []), ([7], [7]), ([8, 6], [8]), ([0, 1, 0, 1, 4, 5, 6, 9], [0, 1]), ([10, 0, 1, 4, 5, 6, 9], [10]), ([11, 6, 9, 0, 1, 4, 5, 6, 9], [6, 11]), ([2, 3, 0, 1, 2, 3, 4, 5, 6, 7, 8, 9, 10, 11, 12], [2, 3]), ([13, 0, 1, 2, 3, 4, 5, 6, 7, 8, 9, 10, 11, 12], [13]), ([14, 9, 12, 0, 1, 2, 3, 4, 5, 6, 7, 8, 9, 10, 11, 12], [9, 14])])
def leave_frames.B5 : List Nat := [0, 0, 0, 0, 0, 16, 48, 0, 128, 496, 1011, 2035, 4083, 8191, 16383, 32767]
theorem leave_frames.tab5 : rtab .any (opsOf Try.f46 5) = leave_frames.T5 := by kernel_rfl
theorem leave_frames.bits5 : waitsOk leave_frames.T5.2 leave_frames.B5 = true := by kernel_rfl
set_option maxHeartbeats 8000000 in
set_option maxRecDepth 100000 in
theorem leave_frames.calls (k : Nat) (P0_ : Nat → Prop) (A0 : Option Addr) (c0 : Nat) (l0 : List (S27)) (r : List (S27)) (w : World) (hs0 : Kd.V k27 27 w w.heap.size (fun k_ => P0_ k_) (.slice A0 l0.length c0) l0) (h : leave_frames.f k l0 = some r) :
    Calls Try.prog 46 #[.slice A0 l0.length c0] w fun e w' => ∃ v0_ : Value, e = .returned (v0_) ∧ Kd.N k27 27 w' w.heap.size (fun k_ => (P0_ k_ ∨ w.heap.size ≤ k_)) v0_ r ∧ Below w.heap.size w w' := by
  have hu27 := Try.underlying27
  have HO0 := Aside0.mk (show Kd.V k27 27 w w.heap.size (fun k_ => (P0_ k_ ∨ w.heap.size ≤ k_)) (.slice A0 l0.length c0) l0 from Kd.V_mono hs0 (fun k_ hk => .inl hk))
  have HB := Aside0.mk (Below.refl w.heap.size w)
  have H : ((api_Frame.f l0).bind fun t178 => (leave_frames.l0 k t178 l0 (l0.length : Int) 0)) = some r := h
  clear h
  replace H := Option.bind_eq_some_iff.mp H
  obtain ⟨t178, A20, H⟩ := H
  replace H : (leave_frames.l0 k t178 l0 (l0.length : Int) 0) = some r := H
  have A2 := Aside0.mk A20
  clear A20
  have H' := Aside0.mk H
  clear H
  go_enter Try.func46, Try.ntmps46
  go_wp2_with (first | ((with_reducible refine gate_callee (f := 67) rfl ?_); refine goesL_ (some 7) rfl rfl Try.func67 (by kernel_rfl) rfl #[.slice A0 l0.length c0] rfl (by (try simp only [List.map_toArray, List.map_cons, List.map_nil]); first | done | rfl | (simp only [List.length_drop, List.length_take]; rfl)) ?_; (with_reducible refine (api_Frame.calls (fun k_ => (P0_ k_ ∨ w.heap.size ≤ k_)) _ _ l0 t178 _ ?side1 A2.out).mono ?_); (case side1 => exact HO0.out); rintro e w3 ⟨v179, rfl, ho0, hb⟩; refine ⟨_, rfl, ?_⟩; have n0_ := Aside0.mk (Kd.V_elder' (by (with_reducible repeat (first | apply Kd.V_alloc | apply Kd.V_drewN | apply Kd.V_drew)); exact HO0.out) (Kd.N_base ho0) hb); have n1_ := Aside0.mk (Kd.N_lower (Kd.N_mono (ok' := fun k_ => (P0_ k_ ∨ w.heap.size ≤ k_)) ho0 (fun k_ hk_ => Or.elim hk_ (fun hs_ => hs_) (fun hn_ => (.inr (Nat.le_trans (below_size (by repeat (with_reducible first | exact HB.out | apply below_alloc | apply pw_below_drewN | apply below_drew1))) hn_))))) (below_size (by repeat (with_reducible first | exact HB.out | apply below_alloc | apply pw_below_drewN | apply below_drew1)))); have n2_ := Aside0.mk (below_step (by repeat (with_reducible first | exact HB.out | apply below_alloc | apply pw_below_drewN | apply below_drew1)) hb); clear HO0; clear HB; have HO0 := n0_; have HO180 := n1_; have HB := n2_; clear n0_ n1_ n2_; (try clear hb); (try clear hb2); (try clear hk); (try clear hi); (try clear ho0)))
  go_loopg [10] k (fun kq v10 w' => ∃ (x3_1 : List (S27)) (x10_1 : Int), v10 = .int .i64 x10_1 ∧ Aside0 (leave_frames.l0 kq x3_1 l0 (l0.length : Int) x10_1 = some r) ∧ Aside0 (kq ≤ k) ∧ Aside0 (Kd.N k27 27 w' w.heap.size (fun k_ => (P0_ k_ ∨ w.heap.size ≤ k_)) v179 x3_1) ∧ Aside0 (Kd.V k27 27 w' w.heap.size (fun k_ => (P0_ k_ ∨ w.heap.size ≤ k_) ∧ some k_ ≠ (v179 : Value).ownBlock) (.slice A0 l0.length c0) l0) ∧ Aside0 (Below w.heap.size w w'))
  case atStart => exact ⟨(t178), (0), (by first | rfl | (simp; done) | (simp [*]; done)), H', ⟨Nat.le_refl _⟩, ⟨by (with_reducible repeat (first | apply Kd.N_alloc | apply Kd.N_drewN | apply Kd.N_drew)); exact HO180.out⟩, ⟨by (with_reducible repeat (first | apply Kd.V_alloc | apply Kd.V_drewN | apply Kd.V_drew)); exact HO0.out⟩, ⟨by repeat (with_reducible first | exact HB.out | apply below_alloc | apply pw_below_drewN | apply below_drew1)⟩⟩
  case round =>
    clear H'
    try clear p2
    obtain ⟨x3_1, x10_1, rfl, HA, HK1, HO_3, HO_8, HB⟩ := hrel
    cases gk with
    | zero => exact absurd HA.out (by simp [leave_frames.l0])
    | succ k1 =>
      have H := HA.out
      clear HA
      simp only [leave_frames.l0] at H
      by_cases c4 : x10_1 < (l0.length : Int)
      · rw [if_pos c4] at H
        have c4b0 : decide (x10_1 < (l0.length : Int)) = true := decide_eq_true c4
        clear c4
        by_cases c5 : 0 ≤ x10_1
        · rw [if_pos c5] at H
          have c5b0 : decide (0 ≤ x10_1) = true := decide_eq_true c5
          clear c5
          by_cases c6 : x10_1 < (l0.length : Int)
          · rw [if_pos c6] at H
            have c6b0 : decide (x10_1 < (l0.length : Int)) = true := decide_eq_true c6
            clear c6
            replace H := Option.bind_eq_some_iff.mp H
            obtain ⟨t183, A70, H⟩ := H
            replace H : ((api_Try_41.f ((rd_T27 l0 x10_1).f6)).bind fun t186 => (if x10_1 < (x3_1.length : Int) then ((some (x3_1.set (x10_1 : Int).toNat (⟨(rd_T27 x3_1 x10_1).f0, (rd_T27 x3_1 x10_1).f1, (rd_T27 x3_1 x10_1).f2, (rd_T27 x3_1 x10_1).f3, (⟨(rd_T27 x3_1 x10_1).f4.f0, (rd_T27 x3_1 x10_1).f4.f1⟩ : S23), t183, (rd_T27 x3_1 x10_1).f6⟩ : S27) : List (S27))).bind fun y189 => (leave_frames.l0 k1 (y189.set (x10_1 : Int).toNat (⟨(rd_T27 y189 x10_1).f0, (rd_T27 y189 x10_1).f1, (rd_T27 y189 x10_1).f2, (rd_T27 y189 x10_1).f3, (⟨(rd_T27 y189 x10_1).f4.f0, (rd_T27 y189 x10_1).f4.f1⟩ : S23), (rd_T27 y189 x10_1).f5, t186⟩ : S27)) l0 (l0.length : Int) (wrap64 (x10_1 + 1)))) else (none))) = some r := H
            have A7 := Aside0.mk A70
            clear A70
            replace H := Option.bind_eq_some_iff.mp H
            obtain ⟨t186, A80, H⟩ := H
            replace H : (if x10_1 < (x3_1.length : Int) then ((some (x3_1.set (x10_1 : Int).toNat (⟨(rd_T27 x3_1 x10_1).f0, (rd_T27 x3_1 x10_1).f1, (rd_T27 x3_1 x10_1).f2, (rd_T27 x3_1 x10_1).f3, (⟨(rd_T27 x3_1 x10_1).f4.f0, (rd_T27 x3_1 x10_1).f4.f1⟩ : S23), t183, (rd_T27 x3_1 x10_1).f6⟩ : S27) : List (S27))).bind fun y189 => (leave_frames.l0 k1 (y189.set (x10_1 : Int).toNat (⟨(rd_T27 y189 x10_1).f0, (rd_T27 y189 x10_1).f1, (rd_T27 y189 x10_1).f2, (rd_T27 y189 x10_1).f3, (⟨(rd_T27 y189 x10_1).f4.f0, (rd_T27 y189 x10_1).f4.f1⟩ : S23), (rd_T27 y189 x10_1).f5, t186⟩ : S27)) l0 (l0.length : Int) (wrap64 (x10_1 + 1)))) else (none)) = some r := H
            have A8 := Aside0.mk A80
            clear A80
            by_cases c9 : x10_1 < (x3_1.length : Int)
            · rw [if_pos c9] at H
              have c9b0 : decide (x10_1 < (x3_1.length : Int)) = true := decide_eq_true c9
              clear c9
              obtain ⟨y189, hy189⟩ : ∃ y_ : List (S27), y_ = (x3_1.set (x10_1 : Int).toNat (⟨(rd_T27 x3_1 x10_1).f0, (rd_T27 x3_1 x10_1).f1, (rd_T27 x3_1 x10_1).f2, (rd_T27 x3_1 x10_1).f3, (⟨(rd_T27 x3_1 x10_1).f4.f0, (rd_T27 x3_1 x10_1).f4.f1⟩ : S23), t183, (rd_T27 x3_1 x10_1).f6⟩ : S27)) := ⟨_, rfl⟩
              replace H : (leave_frames.l0 k1 (y189.set (x10_1 : Int).toNat (⟨(rd_T27 y189 x10_1).f0, (rd_T27 y189 x10_1).f1, (rd_T27 y189 x10_1).f2, (rd_T27 y189 x10_1).f3, (⟨(rd_T27 y189 x10_1).f4.f0, (rd_T27 y189 x10_1).f4.f1⟩ : S23), (rd_T27 y189 x10_1).f5, t186⟩ : S27)) l0 (l0.length : Int) (wrap64 (x10_1 + 1))) = some r := by first | (rw [hy189]; with_reducible exact H) | (have H2_ := (Option.bind_some _ _).symm.trans H; rw [hy189]; with_reducible exact H2_) | (have H2_ := (Option.bind_some _ _).symm.trans H; with_reducible exact H2_) | with_reducible exact H | (rw [hy189]; exact H) | exact H
              have Ny189 := Aside0.mk hy189
              clear hy189
              obtain ⟨y190, hy190⟩ : ∃ y_ : List (S27), y_ = (y189.set (x10_1 : Int).toNat (⟨(rd_T27 y189 x10_1).f0, (rd_T27 y189 x10_1).f1, (rd_T27 y189 x10_1).f2, (rd_T27 y189 x10_1).f3, (⟨(rd_T27 y189 x10_1).f4.f0, (rd_T27 y189 x10_1).f4.f1⟩ : S23), (rd_T27 y189 x10_1).f5, t186⟩ : S27)) := ⟨_, rfl⟩
              replace H : (leave_frames.l0 k1 y190 l0 (l0.length : Int) (wrap64 (x10_1 + 1))) = some r := by first | (rw [hy190]; with_reducible exact H) | (have H2_ := (Option.bind_some _ _).symm.trans H; rw [hy190]; with_reducible exact H2_) | (have H2_ := (Option.bind_some _ _).symm.trans H; with_reducible exact H2_) | with_reducible exact H | (rw [hy190]; exact H) | exact H
              have Ny190 := Aside0.mk hy190
              clear hy190
              have H' := Aside0.mk H
              clear H
              have p181 : 0 ≤ (x10_1 : Int) := of_decide_eq_true (by first | (with_reducible assumption) | assumption)
              have q181 : x10_1 < (l0.length : Int) := of_decide_eq_true (by first | (with_reducible assumption) | assumption)
              obtain ⟨ad181, A181_6, c181_6, A181_7, c181_7, e181, hx181_0, hx181_1, hx181_2, hx181_3, hx181_4, hx181_5, hx181_6, hx181_7, hl181_6, hi181_6, hl181_7, hi181_7⟩ := at_T27 (Kd.V_reads' HO_8.out).2.2 x10_1 p181 q181
              cases e181
              obtain ⟨ce181, hce181, hMe181, hcc181⟩ := Kd.V_get HO_8.out z27 x10_1 p181 (by first | exact q181 | exact of_decide_eq_true (by first | (with_reducible assumption) | assumption) | (have e_ := (Kd.V_reads' HO_8.out).1; omega))
              obtain ⟨ua181_6, uc181_6, ua181_7, uc181_7, rfl, ul181_6, ge181_6, ul181_7, ge181_7⟩ := k27_openF hMe181
              have hv181_6 := hcc181 6 _ rfl
              rw [add_field _ _ 6 (by omega)] at hv181_6
              replace hv181_6 := Option.some.inj (hv181_6.symm.trans hx181_6)
              injection hv181_6 with hva_ hvn_ hvc_
              rw [hva_] at ge181_6
              rw [hvc_] at ul181_6
              have HL181_6 := Aside0.mk (show Kd.V k23 23 _ w.heap.size _ _ ((rd_T27 l0 x10_1).f5) from Kd.V_mk ul181_6 ge181_6)
              clear hva_ hvn_ hvc_ ge181_6 ul181_6
              have hv181_7 := hcc181 7 _ rfl
              rw [add_field _ _ 7 (by omega)] at hv181_7
              replace hv181_7 := Option.some.inj (hv181_7.symm.trans hx181_7)
              injection hv181_7 with hva_ hvn_ hvc_
              rw [hva_] at ge181_7
              rw [hvc_] at ul181_7
              have HL181_7 := Aside0.mk (show Kd.V k111 111 _ w.heap.size _ _ ((rd_T27 l0 x10_1).f6) from Kd.V_mk ul181_7 ge181_7)
              clear hva_ hvn_ hvc_ ge181_7 ul181_7
              clear hcc181 hce181
              have HR181_6 := Aside0.mk hi181_6
              have HC181_6 := Aside0.mk hl181_6
              clear hi181_6 hl181_6
              have HR181_7 := Aside0.mk hi181_7
              have HC181_7 := Aside0.mk hl181_7
              clear hi181_7 hl181_7
              replace p181 := eq_true p181
              replace q181 := eq_true q181
              try go_wp2_with (first | ((with_reducible refine gate_dst (N := 5) rfl ?_); refine box_event ?hg (N := 5) ?hd (cs := #[.int .i64 0, .int .i64 0, .int .i64 0, .int .i64 0, .int .i64 0, .int .i64 0, .slice none 0 0, .slice none 0 0]) (t := 27) ?hr ?_; (case hd => rfl); (case hg => rfl); (case hr => first | (go_simp; done) | (go_simp; rfl)); intro gb182 hg w12 hbox hb; have n0_ := Aside0.mk (Kd.N_below (Kd.N_elderB (by (with_reducible repeat (first | apply Kd.N_alloc | apply Kd.N_drewN | apply Kd.N_drew)); exact HO_3.out) gb182 (Nat.le_of_eq hg.symm)) hb); have n1_ := Aside0.mk (Kd.V_below (Kd.V_elderB (by (with_reducible repeat (first | apply Kd.V_alloc | apply Kd.V_drewN | apply Kd.V_drew)); exact HO_8.out) gb182 (Nat.le_of_eq hg.symm)) hb); have n2_ := Aside0.mk (Kd.V_below (Kd.V_elderB (by (with_reducible repeat (first | apply Kd.V_alloc | apply Kd.V_drewN | apply Kd.V_drew)); exact HL181_6.out) gb182 (Nat.le_of_eq hg.symm)) hb); have n3_ := Aside0.mk (Kd.V_below (Kd.V_elderB (by (with_reducible repeat (first | apply Kd.V_alloc | apply Kd.V_drewN | apply Kd.V_drew)); exact HL181_7.out) gb182 (Nat.le_of_eq hg.symm)) hb); have n4_ := Aside0.mk (Kd.C_below (by repeat (first | (with_reducible exact HR181_6.out) | (with_reducible refine Kd.C_alloc ?_ _) | (with_reducible refine Kd.C_drewN ?_ _) | (with_reducible refine Kd.C_drew ?_) | exact HR181_6.out)) hb); have n5_ := Aside0.mk (Kd.C_below (by repeat (first | (with_reducible exact HR181_7.out) | (with_reducible refine Kd.C_alloc ?_ _) | (with_reducible refine Kd.C_drewN ?_ _) | (with_reducible refine Kd.C_drew ?_) | exact HR181_7.out)) hb); have n6_ := Aside0.mk (below_step (by repeat (with_reducible first | exact HB.out | apply below_alloc | apply pw_below_drewN | apply below_drew1)) hb); have n7_ := Aside0.mk (hbox); have n8_ := Aside0.mk ((by rw [hg]; exact (below_size (by repeat (with_reducible first | exact HB.out | apply below_alloc | apply pw_below_drewN | apply below_drew1))) : w.heap.size ≤ gb182)); have n9_ := Aside0.mk ((by rw [hg]; exact (below_size (by repeat (with_reducible first | exact HB.out | apply below_alloc | apply pw_below_drewN | apply below_drew1))) : w.heap.size ≤ gb182)); clear HO_3; clear HO_8; clear HL181_6; clear HL181_7; clear HR181_6; clear HR181_7; clear HB; have HO_3 := n0_; have HO_8 := n1_; have HL181_6 := n2_; have HL181_7 := n3_; have HR181_6 := n4_; have HR181_7 := n5_; have HB := n6_; have BK182 := n7_; have GW182 := n8_; have GE182 := n9_; clear n0_ n1_ n2_ n3_ n4_ n5_ n6_ n7_ n8_ n9_; clear hb hbox hg; have hcz13_0 : w12.cell? ⟨gb182, 0, none⟩ = some (.int .i64 0) := (blk_cell BK182.out 0).trans rfl; have hcz13_1 : w12.cell? ⟨gb182, 1, none⟩ = some (.int .i64 0) := (blk_cell BK182.out 1).trans rfl; have hcz13_2 : w12.cell? ⟨gb182, 2, none⟩ = some (.int .i64 0) := (blk_cell BK182.out 2).trans rfl; have hcz13_3 : w12.cell? ⟨gb182, 3, none⟩ = some (.int .i64 0) := (blk_cell BK182.out 3).trans rfl; have hcz13_4 : w12.cell? ⟨gb182, 4, none⟩ = some (.int .i64 0) := (blk_cell BK182.out 4).trans rfl; have hcz13_5 : w12.cell? ⟨gb182, 5, none⟩ = some (.int .i64 0) := (blk_cell BK182.out 5).trans rfl; have hcz13_6 : w12.cell? ⟨gb182, 6, none⟩ = some (.slice none 0 0) := (blk_cell BK182.out 6).trans rfl; have hcz13_7 : w12.cell? ⟨gb182, 7, none⟩ = some (.slice none 0 0) := (blk_cell BK182.out 7).trans rfl; have hfz13_0 := blk_frozen BK182.out 0; have hfz13_1 := blk_frozen BK182.out 1; have hfz13_2 := blk_frozen BK182.out 2; have hfz13_3 := blk_frozen BK182.out 3; have hfz13_4 := blk_frozen BK182.out 4; have hfz13_5 := blk_frozen BK182.out 5; have hfz13_6 := blk_frozen BK182.out 6; have hfz13_7 := blk_frozen BK182.out 7))
              have n0_ : Aside0 (Kd.N k27 27 ((((((((w12.setCell ⟨gb182, 0, none⟩ (.int .i64 ((rd_T27 l0 x10_1).f0))).setCell ⟨gb182, 1, none⟩ (.int .i64 ((rd_T27 l0 x10_1).f1))).setCell ⟨gb182, 2, none⟩ (.int .i64 ((rd_T27 l0 x10_1).f2))).setCell ⟨gb182, 3, none⟩ (.int .i64 ((rd_T27 l0 x10_1).f3))).setCell ⟨gb182, 4, none⟩ (.int .i64 ((rd_T27 l0 x10_1).f4.f0))).setCell ⟨gb182, 5, none⟩ (.int .i64 ((rd_T27 l0 x10_1).f4.f1))).setCell ⟨gb182, 6, none⟩ (.slice A181_6 ((rd_T27 l0 x10_1).f5).length c181_6)).setCell ⟨gb182, 7, none⟩ (.slice A181_7 ((rd_T27 l0 x10_1).f6).length c181_7)) w.heap.size (fun k_ => (P0_ k_ ∨ w.heap.size ≤ k_) ∧ k_ ≠ gb182) v179 x3_1) := ⟨by (with_reducible repeat (first | apply Kd.N_alloc | apply Kd.N_drewN | apply Kd.N_drew)); exact Kd.N_mono (Kd.N_far (p := ⟨gb182, 7, none⟩) (Kd.N_far (p := ⟨gb182, 6, none⟩) (Kd.N_far (p := ⟨gb182, 5, none⟩) (Kd.N_far (p := ⟨gb182, 4, none⟩) (Kd.N_far (p := ⟨gb182, 3, none⟩) (Kd.N_far (p := ⟨gb182, 2, none⟩) (Kd.N_far (p := ⟨gb182, 1, none⟩) (Kd.N_far (p := ⟨gb182, 0, none⟩) (Kd.N_mono HO_3.out (fun k_ hk => (⟨hk, hk.2⟩ : _ ∧ k_ ≠ gb182))) (fun _ hk => hk.2) (.int .i64 ((rd_T27 l0 x10_1).f0))) (fun _ hk => hk.2) (.int .i64 ((rd_T27 l0 x10_1).f1))) (fun _ hk => hk.2) (.int .i64 ((rd_T27 l0 x10_1).f2))) (fun _ hk => hk.2) (.int .i64 ((rd_T27 l0 x10_1).f3))) (fun _ hk => hk.2) (.int .i64 ((rd_T27 l0 x10_1).f4.f0))) (fun _ hk => hk.2) (.int .i64 ((rd_T27 l0 x10_1).f4.f1))) (fun _ hk => hk.2) (.slice A181_6 ((rd_T27 l0 x10_1).f5).length c181_6)) (fun _ hk => hk.2) (.slice A181_7 ((rd_T27 l0 x10_1).f6).length c181_7)) (fun _ hk => ⟨hk.1.1, hk.1.2⟩)⟩
              have n1_ : Aside0 (Kd.V k27 27 ((((((((w12.setCell ⟨gb182, 0, none⟩ (.int .i64 ((rd_T27 l0 x10_1).f0))).setCell ⟨gb182, 1, none⟩ (.int .i64 ((rd_T27 l0 x10_1).f1))).setCell ⟨gb182, 2, none⟩ (.int .i64 ((rd_T27 l0 x10_1).f2))).setCell ⟨gb182, 3, none⟩ (.int .i64 ((rd_T27 l0 x10_1).f3))).setCell ⟨gb182, 4, none⟩ (.int .i64 ((rd_T27 l0 x10_1).f4.f0))).setCell ⟨gb182, 5, none⟩ (.int .i64 ((rd_T27 l0 x10_1).f4.f1))).setCell ⟨gb182, 6, none⟩ (.slice A181_6 ((rd_T27 l0 x10_1).f5).length c181_6)).setCell ⟨gb182, 7, none⟩ (.slice A181_7 ((rd_T27 l0 x10_1).f6).length c181_7)) w.heap.size (fun k_ => (P0_ k_ ∨ w.heap.size ≤ k_) ∧ some k_ ≠ (v179 : Value).ownBlock ∧ k_ ≠ gb182) (.slice (some ad181) l0.length c0) l0) := ⟨by (with_reducible repeat (first | apply Kd.V_alloc | apply Kd.V_drewN | apply Kd.V_drew)); exact Kd.V_mono (Kd.V_far (p := ⟨gb182, 7, none⟩) (Kd.V_far (p := ⟨gb182, 6, none⟩) (Kd.V_far (p := ⟨gb182, 5, none⟩) (Kd.V_far (p := ⟨gb182, 4, none⟩) (Kd.V_far (p := ⟨gb182, 3, none⟩) (Kd.V_far (p := ⟨gb182, 2, none⟩) (Kd.V_far (p := ⟨gb182, 1, none⟩) (Kd.V_far (p := ⟨gb182, 0, none⟩) (Kd.V_mono HO_8.out (fun k_ hk => (⟨hk, hk.2⟩ : _ ∧ k_ ≠ gb182))) (fun _ hk => hk.2) (.int .i64 ((rd_T27 l0 x10_1).f0))) (fun _ hk => hk.2) (.int .i64 ((rd_T27 l0 x10_1).f1))) (fun _ hk => hk.2) (.int .i64 ((rd_T27 l0 x10_1).f2))) (fun _ hk => hk.2) (.int .i64 ((rd_T27 l0 x10_1).f3))) (fun _ hk => hk.2) (.int .i64 ((rd_T27 l0 x10_1).f4.f0))) (fun _ hk => hk.2) (.int .i64 ((rd_T27 l0 x10_1).f4.f1))) (fun _ hk => hk.2) (.slice A181_6 ((rd_T27 l0 x10_1).f5).length c181_6)) (fun _ hk => hk.2) (.slice A181_7 ((rd_T27 l0 x10_1).f6).length c181_7)) (fun _ hk => ⟨hk.1.1.1, ⟨hk.1.1.2, hk.1.2⟩⟩)⟩
              have n2_ : Aside0 (Kd.V k23 23 ((((((((w12.setCell ⟨gb182, 0, none⟩ (.int .i64 ((rd_T27 l0 x10_1).f0))).setCell ⟨gb182, 1, none⟩ (.int .i64 ((rd_T27 l0 x10_1).f1))).setCell ⟨gb182, 2, none⟩ (.int .i64 ((rd_T27 l0 x10_1).f2))).setCell ⟨gb182, 3, none⟩ (.int .i64 ((rd_T27 l0 x10_1).f3))).setCell ⟨gb182, 4, none⟩ (.int .i64 ((rd_T27 l0 x10_1).f4.f0))).setCell ⟨gb182, 5, none⟩ (.int .i64 ((rd_T27 l0 x10_1).f4.f1))).setCell ⟨gb182, 6, none⟩ (.slice A181_6 ((rd_T27 l0 x10_1).f5).length c181_6)).setCell ⟨gb182, 7, none⟩ (.slice A181_7 ((rd_T27 l0 x10_1).f6).length c181_7)) w.heap.size (fun k_ => (P0_ k_ ∨ w.heap.size ≤ k_) ∧ some k_ ≠ (v179 : Value).ownBlock ∧ k_ ≠ gb182) (.slice A181_6 ((rd_T27 l0 x10_1).f5).length c181_6) ((rd_T27 l0 x10_1).f5)) := ⟨by (with_reducible repeat (first | apply Kd.V_alloc | apply Kd.V_drewN | apply Kd.V_drew)); exact Kd.V_mono (Kd.V_far (p := ⟨gb182, 7, none⟩) (Kd.V_far (p := ⟨gb182, 6, none⟩) (Kd.V_far (p := ⟨gb182, 5, none⟩) (Kd.V_far (p := ⟨gb182, 4, none⟩) (Kd.V_far (p := ⟨gb182, 3, none⟩) (Kd.V_far (p := ⟨gb182, 2, none⟩) (Kd.V_far (p := ⟨gb182, 1, none⟩) (Kd.V_far (p := ⟨gb182, 0, none⟩) (Kd.V_mono HL181_6.out (fun k_ hk => (⟨hk, hk.2⟩ : _ ∧ k_ ≠ gb182))) (fun _ hk => hk.2) (.int .i64 ((rd_T27 l0 x10_1).f0))) (fun _ hk => hk.2) (.int .i64 ((rd_T27 l0 x10_1).f1))) (fun _ hk => hk.2) (.int .i64 ((rd_T27 l0 x10_1).f2))) (fun _ hk => hk.2) (.int .i64 ((rd_T27 l0 x10_1).f3))) (fun _ hk => hk.2) (.int .i64 ((rd_T27 l0 x10_1).f4.f0))) (fun _ hk => hk.2) (.int .i64 ((rd_T27 l0 x10_1).f4.f1))) (fun _ hk => hk.2) (.slice A181_6 ((rd_T27 l0 x10_1).f5).length c181_6)) (fun _ hk => hk.2) (.slice A181_7 ((rd_T27 l0 x10_1).f6).length c181_7)) (fun _ hk => ⟨hk.1.1.1, ⟨hk.1.1.2, hk.1.2⟩⟩)⟩
              have n3_ : Aside0 (Kd.V k111 111 ((((((((w12.setCell ⟨gb182, 0, none⟩ (.int .i64 ((rd_T27 l0 x10_1).f0))).setCell ⟨gb182, 1, none⟩ (.int .i64 ((rd_T27 l0 x10_1).f1))).setCell ⟨gb182, 2, none⟩ (.int .i64 ((rd_T27 l0 x10_1).f2))).setCell ⟨gb182, 3, none⟩ (.int .i64 ((rd_T27 l0 x10_1).f3))).setCell ⟨gb182, 4, none⟩ (.int .i64 ((rd_T27 l0 x10_1).f4.f0))).setCell ⟨gb182, 5, none⟩ (.int .i64 ((rd_T27 l0 x10_1).f4.f1))).setCell ⟨gb182, 6, none⟩ (.slice A181_6 ((rd_T27 l0 x10_1).f5).length c181_6)).setCell ⟨gb182, 7, none⟩ (.slice A181_7 ((rd_T27 l0 x10_1).f6).length c181_7)) w.heap.size (fun k_ => (P0_ k_ ∨ w.heap.size ≤ k_) ∧ some k_ ≠ (v179 : Value).ownBlock ∧ k_ ≠ gb182) (.slice A181_7 ((rd_T27 l0 x10_1).f6).length c181_7) ((rd_T27 l0 x10_1).f6)) := ⟨by (with_reducible repeat (first | apply Kd.V_alloc | apply Kd.V_drewN | apply Kd.V_drew)); exact Kd.V_mono (Kd.V_far (p := ⟨gb182, 7, none⟩) (Kd.V_far (p := ⟨gb182, 6, none⟩) (Kd.V_far (p := ⟨gb182, 5, none⟩) (Kd.V_far (p := ⟨gb182, 4, none⟩) (Kd.V_far (p := ⟨gb182, 3, none⟩) (Kd.V_far (p := ⟨gb182, 2, none⟩) (Kd.V_far (p := ⟨gb182, 1, none⟩) (Kd.V_far (p := ⟨gb182, 0, none⟩) (Kd.V_mono HL181_7.out (fun k_ hk => (⟨hk, hk.2⟩ : _ ∧ k_ ≠ gb182))) (fun _ hk => hk.2) (.int .i64 ((rd_T27 l0 x10_1).f0))) (fun _ hk => hk.2) (.int .i64 ((rd_T27 l0 x10_1).f1))) (fun _ hk => hk.2) (.int .i64 ((rd_T27 l0 x10_1).f2))) (fun _ hk => hk.2) (.int .i64 ((rd_T27 l0 x10_1).f3))) (fun _ hk => hk.2) (.int .i64 ((rd_T27 l0 x10_1).f4.f0))) (fun _ hk => hk.2) (.int .i64 ((rd_T27 l0 x10_1).f4.f1))) (fun _ hk => hk.2) (.slice A181_6 ((rd_T27 l0 x10_1).f5).length c181_6)) (fun _ hk => hk.2) (.slice A181_7 ((rd_T27 l0 x10_1).f6).length c181_7)) (fun _ hk => ⟨hk.1.1.1, ⟨hk.1.1.2, hk.1.2⟩⟩)⟩
              have n4_ : Aside0 (((((((((w12.setCell ⟨gb182, 0, none⟩ (.int .i64 ((rd_T27 l0 x10_1).f0))).setCell ⟨gb182, 1, none⟩ (.int .i64 ((rd_T27 l0 x10_1).f1))).setCell ⟨gb182, 2, none⟩ (.int .i64 ((rd_T27 l0 x10_1).f2))).setCell ⟨gb182, 3, none⟩ (.int .i64 ((rd_T27 l0 x10_1).f3))).setCell ⟨gb182, 4, none⟩ (.int .i64 ((rd_T27 l0 x10_1).f4.f0))).setCell ⟨gb182, 5, none⟩ (.int .i64 ((rd_T27 l0 x10_1).f4.f1))).setCell ⟨gb182, 6, none⟩ (.slice A181_6 ((rd_T27 l0 x10_1).f5).length c181_6)).setCell ⟨gb182, 7, none⟩ (.slice A181_7 ((rd_T27 l0 x10_1).f6).length c181_7)).heap[gb182]? = some (.cells #[.int .i64 ((rd_T27 l0 x10_1).f0), .int .i64 ((rd_T27 l0 x10_1).f1), .int .i64 ((rd_T27 l0 x10_1).f2), .int .i64 ((rd_T27 l0 x10_1).f3), .int .i64 ((rd_T27 l0 x10_1).f4.f0), .int .i64 ((rd_T27 l0 x10_1).f4.f1), .slice A181_6 ((rd_T27 l0 x10_1).f5).length c181_6, .slice A181_7 ((rd_T27 l0 x10_1).f6).length c181_7] 27 (0, 0))) := ⟨by (with_reducible repeat (first | refine blk_drewN ?_ _ | refine blk_drew ?_ | refine blk_alloc ?_ _)); refine blk_put (cs := #[.int .i64 ((rd_T27 l0 x10_1).f0), .int .i64 ((rd_T27 l0 x10_1).f1), .int .i64 ((rd_T27 l0 x10_1).f2), .int .i64 ((rd_T27 l0 x10_1).f3), .int .i64 ((rd_T27 l0 x10_1).f4.f0), .int .i64 ((rd_T27 l0 x10_1).f4.f1), .slice A181_6 ((rd_T27 l0 x10_1).f5).length c181_6, .slice none 0 0]) ?_ 7 _ rfl; (with_reducible repeat (first | refine blk_drewN ?_ _ | refine blk_drew ?_ | refine blk_alloc ?_ _)); refine blk_put (cs := #[.int .i64 ((rd_T27 l0 x10_1).f0), .int .i64 ((rd_T27 l0 x10_1).f1), .int .i64 ((rd_T27 l0 x10_1).f2), .int .i64 ((rd_T27 l0 x10_1).f3), .int .i64 ((rd_T27 l0 x10_1).f4.f0), .int .i64 ((rd_T27 l0 x10_1).f4.f1), .slice none 0 0, .slice none 0 0]) ?_ 6 _ rfl; (with_reducible repeat (first | refine blk_drewN ?_ _ | refine blk_drew ?_ | refine blk_alloc ?_ _)); refine blk_put (cs := #[.int .i64 ((rd_T27 l0 x10_1).f0), .int .i64 ((rd_T27 l0 x10_1).f1), .int .i64 ((rd_T27 l0 x10_1).f2), .int .i64 ((rd_T27 l0 x10_1).f3), .int .i64 ((rd_T27 l0 x10_1).f4.f0), .int .i64 0, .slice none 0 0, .slice none 0 0]) ?_ 5 _ rfl; (with_reducible repeat (first | refine blk_drewN ?_ _ | refine blk_drew ?_ | refine blk_alloc ?_ _)); refine blk_put (cs := #[.int .i64 ((rd_T27 l0 x10_1).f0), .int .i64 ((rd_T27 l0 x10_1).f1), .int .i64 ((rd_T27 l0 x10_1).f2), .int .i64 ((rd_T27 l0 x10_1).f3), .int .i64 0, .int .i64 0, .slice none 0 0, .slice none 0 0]) ?_ 4 _ rfl; (with_reducible repeat (first | refine blk_drewN ?_ _ | refine blk_drew ?_ | refine blk_alloc ?_ _)); refine blk_put (cs := #[.int .i64 ((rd_T27 l0 x10_1).f0), .int .i64 ((rd_T27 l0 x10_1).f1), .int .i64 ((rd_T27 l0 x10_1).f2), .int .i64 0, .int .i64 0, .int .i64 0, .slice none 0 0, .slice none 0 0]) ?_ 3 _ rfl; (with_reducible repeat (first | refine blk_drewN ?_ _ | refine blk_drew ?_ | refine blk_alloc ?_ _)); refine blk_put (cs := #[.int .i64 ((rd_T27 l0 x10_1).f0), .int .i64 ((rd_T27 l0 x10_1).f1), .int .i64 0, .int .i64 0, .int .i64 0, .int .i64 0, .slice none 0 0, .slice none 0 0]) ?_ 2 _ rfl; (with_reducible repeat (first | refine blk_drewN ?_ _ | refine blk_drew ?_ | refine blk_alloc ?_ _)); refine blk_put (cs := #[.int .i64 ((rd_T27 l0 x10_1).f0), .int .i64 0, .int .i64 0, .int .i64 0, .int .i64 0, .int .i64 0, .slice none 0 0, .slice none 0 0]) ?_ 1 _ rfl; (with_reducible repeat (first | refine blk_drewN ?_ _ | refine blk_drew ?_ | refine blk_alloc ?_ _)); refine blk_put (cs := #[.int .i64 0, .int .i64 0, .int .i64 0, .int .i64 0, .int .i64 0, .int .i64 0, .slice none 0 0, .slice none 0 0]) ?_ 0 _ rfl; (with_reducible repeat (first | refine blk_drewN ?_ _ | refine blk_drew ?_ | refine blk_alloc ?_ _)); exact BK182.out⟩
              have n5_ : Aside0 (Below w.heap.size w ((((((((w12.setCell ⟨gb182, 0, none⟩ (.int .i64 ((rd_T27 l0 x10_1).f0))).setCell ⟨gb182, 1, none⟩ (.int .i64 ((rd_T27 l0 x10_1).f1))).setCell ⟨gb182, 2, none⟩ (.int .i64 ((rd_T27 l0 x10_1).f2))).setCell ⟨gb182, 3, none⟩ (.int .i64 ((rd_T27 l0 x10_1).f3))).setCell ⟨gb182, 4, none⟩ (.int .i64 ((rd_T27 l0 x10_1).f4.f0))).setCell ⟨gb182, 5, none⟩ (.int .i64 ((rd_T27 l0 x10_1).f4.f1))).setCell ⟨gb182, 6, none⟩ (.slice A181_6 ((rd_T27 l0 x10_1).f5).length c181_6)).setCell ⟨gb182, 7, none⟩ (.slice A181_7 ((rd_T27 l0 x10_1).f6).length c181_7))) := ⟨by repeat (first | (with_reducible first | exact HB.out | apply below_alloc | apply pw_below_drewN | apply below_drew1 | refine below_set ?_ GE182.out) | exact HB.out)⟩
              (try clear HO_3)
              (try clear HO_8)
              (try clear HL181_6)
              (try clear HL181_7)
              (try clear BK182)
              (try clear HB)
              generalize ((((((((w12.setCell ⟨gb182, 0, none⟩ (.int .i64 ((rd_T27 l0 x10_1).f0))).setCell ⟨gb182, 1, none⟩ (.int .i64 ((rd_T27 l0 x10_1).f1))).setCell ⟨gb182, 2, none⟩ (.int .i64 ((rd_T27 l0 x10_1).f2))).setCell ⟨gb182, 3, none⟩ (.int .i64 ((rd_T27 l0 x10_1).f3))).setCell ⟨gb182, 4, none⟩ (.int .i64 ((rd_T27 l0 x10_1).f4.f0))).setCell ⟨gb182, 5, none⟩ (.int .i64 ((rd_T27 l0 x10_1).f4.f1))).setCell ⟨gb182, 6, none⟩ (.slice A181_6 ((rd_T27 l0 x10_1).f5).length c181_6)).setCell ⟨gb182, 7, none⟩ (.slice A181_7 ((rd_T27 l0 x10_1).f6).length c181_7)) = w14 at n0_ n1_ n2_ n3_ n4_ n5_ ⊢
              have HO_3 := n0_
              have HO_8 := n1_
              have HL181_6 := n2_
              have HL181_7 := n3_
              have BK182 := n4_
              have HB := n5_
              clear n0_ n1_ n2_ n3_ n4_ n5_
              have n0_ := Aside0.mk (Kd.N_drew HO_3.out)
              have n1_ := Aside0.mk (Kd.V_drew HO_8.out)
              have n2_ := Aside0.mk (Kd.V_drew HL181_6.out)
              have n3_ := Aside0.mk (Kd.V_drew HL181_7.out)
              have n4_ := Aside0.mk (blk_drew BK182.out)
              have n5_ := Aside0.mk (below_drew1 HB.out)
              clear HO_3
              clear HO_8
              clear HL181_6
              clear HL181_7
              clear BK182
              clear HB
              have HO_3 := n0_
              have HO_8 := n1_
              have HL181_6 := n2_
              have HL181_7 := n3_
              have BK182 := n4_
              have HB := n5_
              clear n0_ n1_ n2_ n3_ n4_ n5_
              refine start_ (n := 16) (S := fun w' => w'.cell? ⟨gb182, 0, none⟩ = some (.int .i64 ((rd_T27 l0 x10_1).f0)) ∧ w'.cell? ⟨gb182, 1, none⟩ = some (.int .i64 ((rd_T27 l0 x10_1).f1)) ∧ w'.cell? ⟨gb182, 2, none⟩ = some (.int .i64 ((rd_T27 l0 x10_1).f2)) ∧ w'.cell? ⟨gb182, 3, none⟩ = some (.int .i64 ((rd_T27 l0 x10_1).f3)) ∧ w'.cell? ⟨gb182, 4, none⟩ = some (.int .i64 ((rd_T27 l0 x10_1).f4.f0)) ∧ w'.cell? ⟨gb182, 5, none⟩ = some (.int .i64 ((rd_T27 l0 x10_1).f4.f1)) ∧ w'.cell? ⟨gb182, 6, none⟩ = some (.slice A181_6 ((rd_T27 l0 x10_1).f5).length c181_6) ∧ w'.cell? ⟨gb182, 7, none⟩ = some (.slice A181_7 ((rd_T27 l0 x10_1).f6).length c181_7)) (ds := [12, 15]) #[false, false, false, false, false, false, false, false, false, false, false, false, false, false, false, false] (by kernel_rfl) rfl rfl ⟨(blk_cell BK182.out 0).trans rfl, (blk_cell BK182.out 1).trans rfl, (blk_cell BK182.out 2).trans rfl, (blk_cell BK182.out 3).trans rfl, (blk_cell BK182.out 4).trans rfl, (blk_cell BK182.out 5).trans rfl, (blk_cell BK182.out 6).trans rfl, (blk_cell BK182.out 7).trans rfl⟩ (fun hHeld => ?_); refine with_tabW leave_frames.tab5 leave_frames.bits5 (fun HT_ HW_ => ?_)
              generalize w14.drew = w15 at HO_3 HO_8 HL181_6 HL181_7 BK182 HB hHeld ⊢
              refine pure_ (i := 0) (N := some 15) (v := ?_) (a' := ?_) #[true, false, false, false, false, false, false, false, false, false, false, false, false, false, false, false] rfl rfl (any_of HT_.out (by kernel_rfl)) (fun _ _ _ h => h) (Or.inl ⟨by rfl, ?_⟩) ?_ ?_
              rotate_left
              · intro w'
                go_simp
                with_reducible rfl
              rotate_left
              · simp only [Act.put, List.setIfInBounds_toArray, List.set_cons_zero, List.set_cons_succ, i64_w, i32_w]
                rfl
              refine pure_ (i := 1) (N := some 16) (v := ?_) (a' := ?_) #[true, true, false, false, false, false, false, false, false, false, false, false, false, false, false, false] rfl rfl (any_of HT_.out (by kernel_rfl)) (fun _ _ _ h => h) (Or.inl ⟨by rfl, ?_⟩) ?_ ?_
              rotate_left
              · intro w'
                go_simp
                with_reducible rfl
              rotate_left
              · simp only [Act.put, List.setIfInBounds_toArray, List.set_cons_zero, List.set_cons_succ, i64_w, i32_w]
                rfl
              refine pure_ (i := 2) (N := some 17) (v := ?_) (a' := ?_) #[true, true, true, false, false, false, false, false, false, false, false, false, false, false, false, false] rfl rfl (any_of HT_.out (by kernel_rfl)) (fun _ _ _ h => h) (Or.inl ⟨by rfl, ?_⟩) ?_ ?_
              rotate_left
              · intro w'
                go_simp
                with_reducible rfl
              rotate_left
              · simp only [Act.put, List.setIfInBounds_toArray, List.set_cons_zero, List.set_cons_succ, i64_w, i32_w]
                rfl
              refine pure_ (i := 3) (N := some 18) (v := ?_) (a' := ?_) #[true, true, true, true, false, false, false, false, false, false, false, false, false, false, false, false] rfl rfl (any_of HT_.out (by kernel_rfl)) (fun _ _ _ h => h) (Or.inl ⟨by rfl, ?_⟩) ?_ ?_
              rotate_left
              · intro w'
                go_simp
                with_reducible rfl
              rotate_left
              · simp only [Act.put, List.setIfInBounds_toArray, List.set_cons_zero, List.set_cons_succ, i64_w, i32_w]
                rfl
              refine pure_ (i := 4) (N := some 19) (v := ?_) (a' := ?_) #[true, true, true, true, true, false, false, false, false, false, false, false, false, false, false, false] rfl rfl (any_of HT_.out (by kernel_rfl)) (fun _ _ _ h => h) (Or.inl ⟨by rfl, ?_⟩) ?_ ?_
              rotate_left
              · intro w'
                go_simp
                with_reducible rfl
              rotate_left
              · simp only [Act.put, List.setIfInBounds_toArray, List.set_cons_zero, List.set_cons_succ, i64_w, i32_w]
                rfl
              refine pure_ (i := 7) (N := some 22) (v := ?_) (a' := ?_) #[true, true, true, true, true, false, false, true, false, false, false, false, false, false, false, false] rfl rfl (any_of HT_.out (by kernel_rfl)) (fun _ _ _ h => h) (Or.inl ⟨by rfl, ?_⟩) ?_ ?_
              rotate_left
              · intro w'
                go_simp
                with_reducible rfl
              rotate_left
              · simp only [Act.put, List.setIfInBounds_toArray, List.set_cons_zero, List.set_cons_succ, i64_w, i32_w]
                rfl
              refine take_ (i := 5) (N := some 20) (v := ?_) (a' := ?_) #[true, true, true, true, true, true, false, true, false, false, false, false, false, false, false, false] rfl rfl (take_ofW HT_.out HW_.out (by kernel_rfl)) (fun _ _ _ h => h) (Or.inl ⟨by rfl, ?_⟩) hHeld ?_ ?_
              rotate_left
              · rintro w' ⟨s0, s1, s2, s3, s4, s5, s6, s7⟩
                go_simp
                with_reducible rfl
              rotate_left
              · simp only [Act.put, List.setIfInBounds_toArray, List.set_cons_zero, List.set_cons_succ, i64_w, i32_w]
                rfl
              refine take_ (i := 8) (N := some 23) (v := ?_) (a' := ?_) #[true, true, true, true, true, true, false, true, true, false, false, false, false, false, false, false] rfl rfl (take_ofW HT_.out HW_.out (by kernel_rfl)) (fun _ _ _ h => h) (Or.inl ⟨by rfl, ?_⟩) hHeld ?_ ?_
              rotate_left
              · rintro w' ⟨s0, s1, s2, s3, s4, s5, s6, s7⟩
                go_simp
                with_reducible rfl
              rotate_left
              · simp only [Act.put, List.setIfInBounds_toArray, List.set_cons_zero, List.set_cons_succ, i64_w, i32_w]
                rfl
              refine one_ (i := 6) (N := some 21) #[true, true, true, true, true, true, true, true, true, false, false, false, false, false, false, false] rfl rfl (one_of HT_.out (by kernel_rfl)) (by decide) (fun K hK => ?_)
              refine goes_ Try.func40 (by kernel_rfl) rfl #[.slice A181_6 ((rd_T27 l0 x10_1).f5).length c181_6] (by rfl) rfl rfl (by (try simp only [List.map_toArray, List.map_cons, List.map_nil]); first | done | rfl | (simp only [List.length_drop, List.length_take]; rfl)) ?_
              with_reducible refine (api_Val_40.calls _ _ ((rd_T27 l0 x10_1).f5) t183 _ ?side1 ?side2 A7.out).mono ?_
              (case side1 => repeat (first | exact ((Kd.V_reads' (by (with_reducible repeat (first | apply Kd.V_alloc | apply Kd.V_drewN | apply Kd.V_drew)); exact HL181_6.out)).2.2) | (with_reducible refine Kd.C_alloc ?_ _) | (with_reducible refine Kd.C_drewN ?_ _) | (with_reducible refine Kd.C_drew ?_)))
              (case side2 => exact HC181_6.out)
              rintro e w16 ⟨v184, rfl, ho0, hb⟩
              refine ⟨_, rfl, ?_⟩
              have n0_ := Aside0.mk (Kd.N_elder' (by (with_reducible repeat (first | apply Kd.N_alloc | apply Kd.N_drewN | apply Kd.N_drew)); exact HO_3.out) (Kd.R_base ho0) hb)
              have n1_ := Aside0.mk (Kd.V_elder' (by (with_reducible repeat (first | apply Kd.V_alloc | apply Kd.V_drewN | apply Kd.V_drew)); exact HO_8.out) (Kd.R_base ho0) hb)
              have n2_ := Aside0.mk (Kd.V_elder' (by (with_reducible repeat (first | apply Kd.V_alloc | apply Kd.V_drewN | apply Kd.V_drew)); exact HL181_6.out) (Kd.R_base ho0) hb)
              have n3_ := Aside0.mk (Kd.V_elder' (by (with_reducible repeat (first | apply Kd.V_alloc | apply Kd.V_drewN | apply Kd.V_drew)); exact HL181_7.out) (Kd.R_base ho0) hb)
              have n4_ := Aside0.mk (Kd.R_lower (Kd.R_newM (M := fun k_ => (w.heap.size ≤ k_)) ho0 (below_size (by repeat (first | (with_reducible first | exact HB.out | apply below_alloc | apply pw_below_drewN | apply below_drew1 | refine below_set ?_ GE182.out) | exact HB.out))) (fun k_ h_ => h_)) (below_size (by repeat (first | (with_reducible first | exact HB.out | apply below_alloc | apply pw_below_drewN | apply below_drew1 | refine below_set ?_ GE182.out) | exact HB.out))))
              have n5_ := Aside0.mk (blk_below (g := gb182) (o := .cells #[.int .i64 ((rd_T27 l0 x10_1).f0), .int .i64 ((rd_T27 l0 x10_1).f1), .int .i64 ((rd_T27 l0 x10_1).f2), .int .i64 ((rd_T27 l0 x10_1).f3), .int .i64 ((rd_T27 l0 x10_1).f4.f0), .int .i64 ((rd_T27 l0 x10_1).f4.f1), .slice A181_6 ((rd_T27 l0 x10_1).f5).length c181_6, .slice A181_7 ((rd_T27 l0 x10_1).f6).length c181_7] 27 (0, 0)) (by (with_reducible repeat (first | refine blk_drewN ?_ _ | refine blk_drew ?_ | refine blk_alloc ?_ _)); exact BK182.out) hb)
              have n6_ := Aside0.mk (below_step (by repeat (first | (with_reducible first | exact HB.out | apply below_alloc | apply pw_below_drewN | apply below_drew1 | refine below_set ?_ GE182.out) | exact HB.out)) hb)
              clear HO_3
              clear HO_8
              clear HL181_6
              clear HL181_7
              clear BK182
              clear HB
              have HO_3 := n0_
              have HO_8 := n1_
              have HL181_6 := n2_
              have HL181_7 := n3_
              have HO185 := n4_
              have BK182 := n5_
              have HB := n6_
              clear n0_ n1_ n2_ n3_ n4_ n5_ n6_
              (try clear hb)
              (try clear hb2)
              (try clear hk)
              (try clear hi)
              (try clear ho0)
              refine hK.out _ _ ⟨(blk_cell BK182.out 0).trans rfl, (blk_cell BK182.out 1).trans rfl, (blk_cell BK182.out 2).trans rfl, (blk_cell BK182.out 3).trans rfl, (blk_cell BK182.out 4).trans rfl, (blk_cell BK182.out 5).trans rfl, (blk_cell BK182.out 6).trans rfl, (blk_cell BK182.out 7).trans rfl⟩ (fun hHeld => ?_)
              clear hK K
              refine norm_ (a' := ?_) ?_ ?_
              rotate_left
              · show Act.put _ (some 21) _ = _
                simp only [Act.put, List.setIfInBounds_toArray, List.set_cons_zero, List.set_cons_succ, i64_w, i32_w]
                rfl
              refine one_ (i := 9) (N := some 24) #[true, true, true, true, true, true, true, true, true, true, false, false, false, false, false, false] rfl rfl (one_of HT_.out (by kernel_rfl)) (by decide) (fun K hK => ?_)
              refine goes_ Try.func41 (by kernel_rfl) rfl #[.slice A181_7 ((rd_T27 l0 x10_1).f6).length c181_7] (by rfl) rfl rfl (by (try simp only [List.map_toArray, List.map_cons, List.map_nil]); first | done | rfl | (simp only [List.length_drop, List.length_take]; rfl)) ?_
              with_reducible refine (api_Try_41.calls _ _ ((rd_T27 l0 x10_1).f6) t186 _ ?side1 ?side2 A8.out).mono ?_
              (case side1 => repeat (first | exact ((Kd.V_reads' (by (with_reducible repeat (first | apply Kd.V_alloc | apply Kd.V_drewN | apply Kd.V_drew)); exact HL181_7.out)).2.2) | (with_reducible refine Kd.C_alloc ?_ _) | (with_reducible refine Kd.C_drewN ?_ _) | (with_reducible refine Kd.C_drew ?_)))
              (case side2 => exact HC181_7.out)
              rintro e w17 ⟨v187, rfl, ho0, hb⟩
              refine ⟨_, rfl, ?_⟩
              have n0_ := Aside0.mk (Kd.N_elder' (by (with_reducible repeat (first | apply Kd.N_alloc | apply Kd.N_drewN | apply Kd.N_drew)); exact HO_3.out) (Kd.R_base ho0) hb)
              have n1_ := Aside0.mk (Kd.V_elder' (by (with_reducible repeat (first | apply Kd.V_alloc | apply Kd.V_drewN | apply Kd.V_drew)); exact HO_8.out) (Kd.R_base ho0) hb)
              have n2_ := Aside0.mk (Kd.V_elder' (by (with_reducible repeat (first | apply Kd.V_alloc | apply Kd.V_drewN | apply Kd.V_drew)); exact HL181_6.out) (Kd.R_base ho0) hb)
              have n3_ := Aside0.mk (Kd.V_elder' (by (with_reducible repeat (first | apply Kd.V_alloc | apply Kd.V_drewN | apply Kd.V_drew)); exact HL181_7.out) (Kd.R_base ho0) hb)
              have n4_ := Aside0.mk (Kd.R_below (by (with_reducible repeat (first | apply Kd.R_alloc | apply Kd.R_drewN | apply Kd.R_drew)); exact HO185.out) hb)
              have n5_ := Aside0.mk (Kd.R_lower (Kd.R_newM (M := fun k_ => (w.heap.size ≤ k_)) ho0 (below_size (by repeat (first | (with_reducible first | exact HB.out | apply below_alloc | apply pw_below_drewN | apply below_drew1 | refine below_set ?_ GE182.out) | exact HB.out))) (fun k_ h_ => h_)) (below_size (by repeat (first | (with_reducible first | exact HB.out | apply below_alloc | apply pw_below_drewN | apply below_drew1 | refine below_set ?_ GE182.out) | exact HB.out))))
              have n6_ := Aside0.mk (blk_below (g := gb182) (o := .cells #[.int .i64 ((rd_T27 l0 x10_1).f0), .int .i64 ((rd_T27 l0 x10_1).f1), .int .i64 ((rd_T27 l0 x10_1).f2), .int .i64 ((rd_T27 l0 x10_1).f3), .int .i64 ((rd_T27 l0 x10_1).f4.f0), .int .i64 ((rd_T27 l0 x10_1).f4.f1), .slice A181_6 ((rd_T27 l0 x10_1).f5).length c181_6, .slice A181_7 ((rd_T27 l0 x10_1).f6).length c181_7] 27 (0, 0)) (by (with_reducible repeat (first | refine blk_drewN ?_ _ | refine blk_drew ?_ | refine blk_alloc ?_ _)); exact BK182.out) hb)
              have n7_ := Aside0.mk (below_step (by repeat (first | (with_reducible first | exact HB.out | apply below_alloc | apply pw_below_drewN | apply below_drew1 | refine below_set ?_ GE182.out) | exact HB.out)) hb)
              clear HO_3
              clear HO_8
              clear HL181_6
              clear HL181_7
              clear HO185
              clear BK182
              clear HB
              have HO_3 := n0_
              have HO_8 := n1_
              have HL181_6 := n2_
              have HL181_7 := n3_
              have HO185 := n4_
              have HO188 := n5_
              have BK182 := n6_
              have HB := n7_
              clear n0_ n1_ n2_ n3_ n4_ n5_ n6_ n7_
              (try clear hb)
              (try clear hb2)
              (try clear hk)
              (try clear hi)
              (try clear ho0)
              have p10 : 0 ≤ (x10_1 : Int) := of_decide_eq_true (by first | (with_reducible assumption) | assumption)
              have q10 : (x10_1 : Int) < ((x3_1.length : Int) : Int) := of_decide_eq_true (by first | (with_reducible assumption) | assumption)
              obtain ⟨go10, co10, eo10, gb10, gl10, cl10, HG10⟩ := Kd.N_form HO_3.out (by omega)
              (first | cases eo10 | (injection eo10 with ea_ en_ ec_; (first | subst ea_ | (injection ea_ with ea_; subst ea_)); subst ec_; clear en_))
              have GB10 := Aside0.mk gb10
              have GG10 := Aside0.mk HG10
              clear gb10 gl10 HG10
              obtain ⟨ce10, hcl10, hM10, hcc10, hfr10⟩ := Kd.N_elem HO_3.out z27 (x10_1 : Int) p10 q10
              obtain ⟨ua10_6, uc10_6, ua10_7, uc10_7, rfl, ul10_6, ge10_6, ul10_7, ge10_7⟩ := k27_openF hM10
              have hx10_0 : World.cell? _ ⟨go10, (x10_1 : Int).toNat * 8, none⟩ = some (.int .i64 ((rd_T27 x3_1 x10_1).f0)) := hcc10 0 _ rfl
              have hx10_1 : World.cell? _ ⟨go10, (x10_1 : Int).toNat * 8 + 1, none⟩ = some (.int .i64 ((rd_T27 x3_1 x10_1).f1)) := hcc10 1 _ rfl
              have hx10_2 : World.cell? _ ⟨go10, (x10_1 : Int).toNat * 8 + 2, none⟩ = some (.int .i64 ((rd_T27 x3_1 x10_1).f2)) := hcc10 2 _ rfl
              have hx10_3 : World.cell? _ ⟨go10, (x10_1 : Int).toNat * 8 + 3, none⟩ = some (.int .i64 ((rd_T27 x3_1 x10_1).f3)) := hcc10 3 _ rfl
              have hx10_4 : World.cell? _ ⟨go10, (x10_1 : Int).toNat * 8 + 4, none⟩ = some (.int .i64 ((rd_T27 x3_1 x10_1).f4.f0)) := hcc10 4 _ rfl
              have hx10_5 : World.cell? _ ⟨go10, (x10_1 : Int).toNat * 8 + 5, none⟩ = some (.int .i64 ((rd_T27 x3_1 x10_1).f4.f1)) := hcc10 5 _ rfl
              have hx10_6 : World.cell? _ ⟨go10, (x10_1 : Int).toNat * 8 + 6, none⟩ = some (.slice ua10_6 ((rd_T27 x3_1 x10_1).f5).length uc10_6) := hcc10 6 _ rfl
              have hx10_7 : World.cell? _ ⟨go10, (x10_1 : Int).toNat * 8 + 7, none⟩ = some (.slice ua10_7 ((rd_T27 x3_1 x10_1).f6).length uc10_7) := hcc10 7 _ rfl
              have hf10_0 : World.frozen? _ ⟨go10, (x10_1 : Int).toNat * 8, none⟩ = false := hfr10 0
              have hf10_1 : World.frozen? _ ⟨go10, (x10_1 : Int).toNat * 8 + 1, none⟩ = false := hfr10 1
              have hf10_2 : World.frozen? _ ⟨go10, (x10_1 : Int).toNat * 8 + 2, none⟩ = false := hfr10 2
              have hf10_3 : World.frozen? _ ⟨go10, (x10_1 : Int).toNat * 8 + 3, none⟩ = false := hfr10 3
              have hf10_4 : World.frozen? _ ⟨go10, (x10_1 : Int).toNat * 8 + 4, none⟩ = false := hfr10 4
              have hf10_5 : World.frozen? _ ⟨go10, (x10_1 : Int).toNat * 8 + 5, none⟩ = false := hfr10 5
              have hf10_6 : World.frozen? _ ⟨go10, (x10_1 : Int).toNat * 8 + 6, none⟩ = false := hfr10 6
              have hf10_7 : World.frozen? _ ⟨go10, (x10_1 : Int).toNat * 8 + 7, none⟩ = false := hfr10 7
              clear hcl10 hcc10 hfr10 hM10
              replace p10 := eq_true p10
              replace q10 := eq_true q10
              obtain ⟨Ao19, co19, eo19⟩ := Kd.R_slice HO185.out
              (first | subst eo19 | (injection eo19 with f1_ f2_ f3_; have f4_ := f1_.symm; have f5_ := f3_.symm; clear f1_ f2_ f3_; subst f4_; subst f5_))
              have HX18 := Aside0.mk (show Kd.N k27 27 _ w.heap.size (fun k_ => (P0_ k_ ∨ w.heap.size ≤ k_) ∧ some k_ ≠ (.slice Ao19 t183.length co19 : Value).ownBlock ∧ some k_ ≠ (v187 : Value).ownBlock ∧ k_ ≠ gb182) (.slice (some ⟨go10, 0, none⟩) x3_1.length co10) x3_1 from (Kd.N_mono (HO_3.out) (fun k_ hk => ⟨hk.1.1.1, ⟨hk.1.2, ⟨hk.2, hk.1.1.2⟩⟩⟩)))
              replace HX18 := Aside0.mk (show Kd.N k27 27 _ w.heap.size (fun k_ => (P0_ k_ ∨ w.heap.size ≤ k_) ∧ some k_ ≠ (v187 : Value).ownBlock ∧ k_ ≠ gb182) (.slice (some ⟨go10, 0, none⟩) x3_1.length co10) x3_1 from Kd.N_mono HX18.out (fun k_ hk => ⟨hk.1, ⟨hk.2.2.1, hk.2.2.2⟩⟩))
              have HFa20 := Kd.R_types (Kd.R_apart' (Kd.R_apart' (HO185.out) (Kd.R_typed HO188.out) (by decide)) (Kd.N_typed HO_3.out) (by decide)) BK182.out (by decide)
              have HFb20 := Aside0.mk (Kd.R_mono (ok' := (fun k_ => ((fun k_ => (P0_ k_ ∨ w.heap.size ≤ k_) ∧ some k_ ≠ (v187 : Value).ownBlock ∧ k_ ≠ gb182)) k_ ∧ k_ ≠ go10)) HFa20 (fun k_ hk => ⟨⟨(.inr (hk.1.1.1.1)), ⟨hk.1.1.2, hk.2⟩⟩, fun e_ => (hk.1.2) (by rw [e_]; rfl)⟩))
              clear HFa20
              obtain ⟨ce18, hcl18, hM18, hcc18, hfr18⟩ := Kd.N_elem HX18.out z27 (x10_1 : Int) (of_decide_eq_true (by first | (with_reducible assumption) | assumption)) (by have h_ : (x10_1 : Int) < ((x3_1.length : Int) : Int) := of_decide_eq_true (by first | (with_reducible assumption) | assumption); first | exact h_ | (have e_ := (Kd.N_reads' HO_3.out).1; omega) | simpa using h_)
              obtain ⟨ua18_6, uc18_6, ua18_7, uc18_7, rfl, ul18_6, ge18_6, ul18_7, ge18_7⟩ := k27_openF hM18
              have HG18_ := Kd.N_seg HX18.out (x10_1 : Int) (of_decide_eq_true (by first | (with_reducible assumption) | assumption)) (by have h_ : (x10_1 : Int) < ((x3_1.length : Int) : Int) := of_decide_eq_true (by first | (with_reducible assumption) | assumption); first | exact h_ | (have e_ := (Kd.N_reads' HO_3.out).1; omega) | simpa using h_) (seg := [.slice Ao19 t183.length co19]) (j := 6) hcl18 hcc18 (show 7 ≤ 8 from by decide) (x' := (⟨(rd_T27 x3_1 x10_1).f0, (rd_T27 x3_1 x10_1).f1, (rd_T27 x3_1 x10_1).f2, (rd_T27 x3_1 x10_1).f3, (⟨(rd_T27 x3_1 x10_1).f4.f0, (rd_T27 x3_1 x10_1).f4.f1⟩ : S23), t183, (rd_T27 x3_1 x10_1).f6⟩ : S27)) (by exact (k27_mkF _ _ (⟨(rd_T27 x3_1 x10_1).f0, (rd_T27 x3_1 x10_1).f1, (rd_T27 x3_1 x10_1).f2, (rd_T27 x3_1 x10_1).f3, (⟨(rd_T27 x3_1 x10_1).f4.f0, (rd_T27 x3_1 x10_1).f4.f1⟩ : S23), t183, (rd_T27 x3_1 x10_1).f6⟩ : S27) (Kd.R_reads' HFb20.out).2.1 (Kd.R_F HFb20.out) ul18_7 ge18_7)) (fun _ hk => hk)
              have HP18 := HG18_.1
              replace HG18_ := HG18_.2
              have HG18 := Aside0.mk HG18_
              clear HG18_
              rw [← Ny189.out] at HP18
              have HQ18 := Aside0.mk HP18
              clear hcl18 hcc18 hfr18 hM18 HP18
              have p11 : 0 ≤ (x10_1 : Int) := of_decide_eq_true (by first | (with_reducible assumption) | assumption)
              have q11 : (x10_1 : Int) < ((x3_1.length : Int) : Int) := of_decide_eq_true (by first | (with_reducible assumption) | assumption)
              replace p11 := eq_true p11
              replace q11 := eq_true q11
              obtain ⟨Ao22, co22, eo22⟩ := Kd.R_slice HO188.out
              (first | subst eo22 | (injection eo22 with f1_ f2_ f3_; have f4_ := f1_.symm; have f5_ := f3_.symm; clear f1_ f2_ f3_; subst f4_; subst f5_))
              have HX21 := Aside0.mk (show Kd.N k27 27 _ w.heap.size (fun k_ => (P0_ k_ ∨ w.heap.size ≤ k_) ∧ some k_ ≠ (.slice Ao22 t186.length co22 : Value).ownBlock ∧ k_ ≠ gb182) (.slice (some ⟨go10, 0, none⟩) x3_1.length co10) y189 from (Kd.N_mono (HQ18.out) (fun k_ hk => ⟨hk.1, ⟨hk.2.1, hk.2.2⟩⟩)))
              replace HX21 := Aside0.mk (show Kd.N k27 27 _ w.heap.size (fun k_ => (P0_ k_ ∨ w.heap.size ≤ k_) ∧ k_ ≠ gb182) (.slice (some ⟨go10, 0, none⟩) x3_1.length co10) y189 from Kd.N_mono HX21.out (fun k_ hk => ⟨hk.1, hk.2.2⟩))
              have HFa23 := Kd.R_types (Kd.R_apart' (HO188.out) (Kd.N_typed HO_3.out) (by decide)) BK182.out (by decide)
              have HFb23 := Kd.R_mono (ok' := fun k_ => ((fun k_ => ((fun k_ => (P0_ k_ ∨ w.heap.size ≤ k_) ∧ k_ ≠ gb182)) k_ ∧ k_ ≠ go10)) k_ ∧ some k_ ≠ (.slice (some ⟨go10, 0, none⟩) x3_1.length co10 : Value).ownBlock) HFa23 (fun k_ hk => ⟨⟨⟨(.inr (hk.1.1.1)), hk.2⟩, fun e_ => (hk.1.2) (by rw [e_]; rfl)⟩, hk.1.2⟩)
              have HFc23 := Aside0.mk (Kd.R_after (v := .slice (some ⟨go10, 0, none⟩) x3_1.length co10) (v1 := .slice (some ⟨go10, 0, none⟩) x3_1.length co10) HFb23 HG18.out (.inl rfl))
              clear HFa23 HFb23
              have HFa24 := HFc23.out
              have HFb24 := Aside0.mk (Kd.R_mono (ok' := (fun k_ => ((fun k_ => (P0_ k_ ∨ w.heap.size ≤ k_) ∧ k_ ≠ gb182)) k_ ∧ k_ ≠ go10)) HFa24 (fun k_ hk => hk.1))
              clear HFa24
              obtain ⟨ce21, hcl21, hM21, hcc21, hfr21⟩ := Kd.N_elem HX21.out z27 (x10_1 : Int) (of_decide_eq_true (by first | (with_reducible assumption) | assumption)) (by have h_ : (x10_1 : Int) < ((x3_1.length : Int) : Int) := of_decide_eq_true (by first | (with_reducible assumption) | assumption); first | exact h_ | (have e_ := (Kd.N_reads' HO_3.out).1; omega) | simpa using h_)
              obtain ⟨ua21_6, uc21_6, ua21_7, uc21_7, rfl, ul21_6, ge21_6, ul21_7, ge21_7⟩ := k27_openF hM21
              have HG21_ := Kd.N_seg HX21.out (x10_1 : Int) (of_decide_eq_true (by first | (with_reducible assumption) | assumption)) (by have h_ : (x10_1 : Int) < ((x3_1.length : Int) : Int) := of_decide_eq_true (by first | (with_reducible assumption) | assumption); first | exact h_ | (have e_ := (Kd.N_reads' HO_3.out).1; omega) | simpa using h_) (seg := [.slice Ao22 t186.length co22]) (j := 7) hcl21 hcc21 (show 8 ≤ 8 from by decide) (x' := (⟨(rd_T27 y189 x10_1).f0, (rd_T27 y189 x10_1).f1, (rd_T27 y189 x10_1).f2, (rd_T27 y189 x10_1).f3, (⟨(rd_T27 y189 x10_1).f4.f0, (rd_T27 y189 x10_1).f4.f1⟩ : S23), (rd_T27 y189 x10_1).f5, t186⟩ : S27)) (by exact (k27_mkF _ _ (⟨(rd_T27 y189 x10_1).f0, (rd_T27 y189 x10_1).f1, (rd_T27 y189 x10_1).f2, (rd_T27 y189 x10_1).f3, (⟨(rd_T27 y189 x10_1).f4.f0, (rd_T27 y189 x10_1).f4.f1⟩ : S23), (rd_T27 y189 x10_1).f5, t186⟩ : S27) ul21_6 ge21_6 (Kd.R_reads' HFb24.out).2.1 (Kd.R_F HFb24.out))) (fun _ hk => hk)
              have HP21 := HG21_.1
              replace HG21_ := HG21_.2
              have HG21 := Aside0.mk HG21_
              clear HG21_
              rw [← Ny190.out] at HP21
              have HQ21 := Aside0.mk HP21
              clear hcl21 hcc21 hfr21 hM21 HP21
              refine hK.out _ _ ⟨(blk_cell BK182.out 0).trans rfl, (blk_cell BK182.out 1).trans rfl, (blk_cell BK182.out 2).trans rfl, (blk_cell BK182.out 3).trans rfl, (blk_cell BK182.out 4).trans rfl, (blk_cell BK182.out 5).trans rfl, (blk_cell BK182.out 6).trans rfl, (blk_cell BK182.out 7).trans rfl⟩ (fun hHeld => ?_)
              clear hK K
              refine norm_ (a' := ?_) ?_ ?_
              rotate_left
              · show Act.put _ (some 24) _ = _
                simp only [Act.put, List.setIfInBounds_toArray, List.set_cons_zero, List.set_cons_succ, i64_w, i32_w]
                rfl
              refine pure_ (i := 10) (N := some 25) (v := ?_) (a' := ?_) #[true, true, true, true, true, true, true, true, true, true, true, false, false, false, false, false] rfl rfl (any_of HT_.out (by kernel_rfl)) (fun _ _ _ h => h) (Or.inl ⟨by rfl, ?_⟩) ?_ ?_
              rotate_left
              · intro w'
                go_simp
                with_reducible rfl
              rotate_left
              · simp only [Act.put, List.setIfInBounds_toArray, List.set_cons_zero, List.set_cons_succ, i64_w, i32_w]
                rfl
              refine pure_ (i := 11) (N := some 26) (v := ?_) (a' := ?_) #[true, true, true, true, true, true, true, true, true, true, true, true, false, false, false, false] rfl rfl (any_of HT_.out (by kernel_rfl)) (fun _ _ _ h => h) (Or.inl ⟨by rfl, ?_⟩) ?_ ?_
              rotate_left
              · intro w'
                go_simp
                with_reducible rfl
              rotate_left
              · simp only [Act.put, List.setIfInBounds_toArray, List.set_cons_zero, List.set_cons_succ, i64_w, i32_w]
                rfl
              refine last_ (i := 12) (N := none) #[true, true, true, true, true, true, true, true, true, true, true, true, true, false, false, false] rfl rfl (one_of HT_.out (by kernel_rfl)) (by decide) (fun K hK => ?_)
              refine skip_ (w1 := ?_) (by rfl) rfl ?_ ?_
              rotate_left
              · go_simp
                rfl
              refine hK.out _ _ ?_
              clear hK K
              refine pure_ (i := 13) (N := some 27) (v := ?_) (a' := ?_) #[true, true, true, true, true, true, true, true, true, true, true, true, true, true, false, false] rfl rfl (any_of HT_.out (by kernel_rfl)) (fun _ _ _ h => h) (Or.inl ⟨by rfl, ?_⟩) ?_ ?_
              rotate_left
              · intro w'
                go_simp
                with_reducible rfl
              rotate_left
              · simp only [Act.put, List.setIfInBounds_toArray, List.set_cons_zero, List.set_cons_succ, i64_w, i32_w]
                rfl
              refine pure_ (i := 14) (N := some 28) (v := ?_) (a' := ?_) #[true, true, true, true, true, true, true, true, true, true, true, true, true, true, true, false] rfl rfl (any_of HT_.out (by kernel_rfl)) (fun _ _ _ h => h) (Or.inl ⟨by rfl, ?_⟩) ?_ ?_
              rotate_left
              · intro w'
                go_simp
                with_reducible rfl
              rotate_left
              · simp only [Act.put, List.setIfInBounds_toArray, List.set_cons_zero, List.set_cons_succ, i64_w, i32_w]
                rfl
              refine last_ (i := 15) (N := none) #[true, true, true, true, true, true, true, true, true, true, true, true, true, true, true, true] rfl rfl (one_of HT_.out (by kernel_rfl)) (by decide) (fun K hK => ?_)
              refine skip_ (w1 := ?_) (by rfl) rfl ?_ ?_
              rotate_left
              · go_simp
                rfl
              refine hK.out _ _ ?_
              clear hK K
              refine done_ (done_of HT_.out (by kernel_rfl)) ?_
              try go_wp2
              go_roundg k1
              case measure => have := HK1.out; omega
              case rel => exact ⟨(y190), (wrap64 (x10_1 + 1)), (by first | rfl | (simp; done) | (simp [*]; done)), H', ⟨by have := HK1.out; omega⟩, ⟨by (with_reducible repeat (first | apply Kd.N_alloc | apply Kd.N_drewN | apply Kd.N_drew)); exact Kd.N_mono HQ21.out (fun _ hk => hk.1)⟩, ⟨by (with_reducible repeat (first | apply Kd.V_alloc | apply Kd.V_drewN | apply Kd.V_drew)); exact Kd.V_mono (Kd.V_far (p := ⟨go10, (x10_1 : Int).toNat * 8 + 7, none⟩) (Kd.V_far (p := ⟨go10, (x10_1 : Int).toNat * 8 + 6, none⟩) (Kd.V_mono HO_8.out (fun k_ hk => (⟨hk, fun e_ => hk.1.1.2.1 (by rw [e_]; rfl)⟩ : _ ∧ k_ ≠ go10))) (fun _ hk => hk.2) (.slice Ao19 t183.length co19)) (fun _ hk => hk.2) (.slice Ao22 t186.length co22)) (fun _ hk => ⟨hk.1.1.1.1, hk.1.1.1.2.1⟩)⟩, ⟨by repeat (first | (with_reducible first | exact HB.out | apply below_alloc | apply pw_below_drewN | apply below_drew1 | refine below_set ?_ GB10.out | refine below_set ?_ GB10.out | refine below_set ?_ GE182.out) | exact HB.out)⟩⟩
            · rw [if_neg c9] at H
              exact absurd H (by simp)
          · rw [if_neg c6] at H
            exact absurd H (by simp)
        · rw [if_neg c5] at H
          exact absurd H (by simp)
      · rw [if_neg c4] at H
        have c4b0 : decide (x10_1 < (l0.length : Int)) = false := decide_eq_false c4
        clear c4
        obtain rfl := Option.some.inj H
        go_wp2
        go_ret
        exact ⟨_, by first | rfl | (simp [errW_none, errW_some] <;> rfl) | (simp [*, errW_none, errW_some] <;> rfl), by (with_reducible repeat (first | apply Kd.N_alloc | apply Kd.N_drewN | apply Kd.N_drew)); exact HO_3.out, by repeat (with_reducible first | exact HB.out | apply below_alloc | apply pw_below_drewN | apply below_drew1)⟩

/-! ### api_Cell: function 66 -/
def api_Cell.f (l0 : List (S50)) : Option ((List (S50))) := (some (([] : List (S50)) : List (S50))).bind fun y191 => (if y191.length + l0.length < 2199023255552 then (some (y191 ++ l0)) else (none))
set_option maxHeartbeats 8000000 in
set_option maxRecDepth 100000 in
theorem api_Cell.calls (P0_ : Nat → Prop) (A0 : Option Addr) (c0 : Nat) (l0 : List (S50)) (r : List (S50)) (w : World) (hs0 : Kd.V k50 50 w w.heap.size (fun k_ => P0_ k_) (.slice A0 l0.length c0) l0) (h : api_Cell.f l0 = some r) :
    Calls Try.prog 66 #[.slice A0 l0.length c0] w fun e w' => ∃ v0_ : Value, e = .returned (v0_) ∧ Kd.N k50 50 w' w.heap.size (fun k_ => (P0_ k_ ∨ w.heap.size ≤ k_)) v0_ r ∧ Below w.heap.size w w' := by
  cases A0 with
  | none =>
    have hl : l0 = [] := List.eq_nil_of_length_eq_zero (by rcases Nat.eq_zero_or_pos l0.length with h0 | h0; exact h0; first | (obtain ⟨ad, e, _⟩ := hr0.2.2 h0; cases e) | (obtain ⟨ad, e, _⟩ := (Kd.V_reads' hs0).2.2.2.2 h0; cases e))
    subst hl
    obtain rfl : r = [] := by unfold api_Cell.f at h; simpa using h.symm
    have hnil := fun (W : World) => Lib.run_eql_slice_nil (P := Try.prog) W 40 50 none 0 c0 0 0 Try.underlying40
    go_enter Try.func66, Try.ntmps66
    go_wp2
    go_ret
    exact ⟨_, rfl, by first | exact Kd.R_nil _ _ _ _ _ | exact Kd.S_nil _ _ _ _ _ | exact Kd.N_nil _ _ _ _ _ | exact Kd.V_nil _ _ _ _ _, Below.refl _ _⟩
  | some ad0 =>
    have hnil := fun (W : World) => Lib.run_eql_slice_nil (P := Try.prog) W 40 50 (some ad0) l0.length c0 0 0 Try.underlying40
    have HO0 := Aside0.mk (show Kd.V k50 50 w w.heap.size (fun k_ => (P0_ k_ ∨ w.heap.size ≤ k_)) (.slice (some ad0) l0.length c0) l0 from Kd.V_mono hs0 (fun k_ hk => .inl hk))
    have HB := Aside0.mk (Below.refl w.heap.size w)
    have H : ((some (([] : List (S50)) : List (S50))).bind fun y191 => (if y191.length + l0.length < 2199023255552 then (some (y191 ++ l0)) else (none))) = some r := h
    clear h
    obtain ⟨y191, hy191⟩ : ∃ y_ : List (S50), y_ = (([] : List (S50))) := ⟨_, rfl⟩
    replace H : (if y191.length + l0.length < 2199023255552 then (some (y191 ++ l0)) else (none)) = some r := by first | (rw [hy191]; with_reducible exact H) | (have H2_ := (Option.bind_some _ _).symm.trans H; rw [hy191]; with_reducible exact H2_) | (have H2_ := (Option.bind_some _ _).symm.trans H; with_reducible exact H2_) | with_reducible exact H | (rw [hy191]; exact H) | exact H
    have Ny191 := Aside0.mk hy191
    clear hy191
    by_cases c2 : y191.length + l0.length < 2199023255552
    · rw [if_pos c2] at H
      have LMc2 := Aside0.mk c2
      clear c2
      obtain ⟨y194, hy194⟩ : ∃ y_ : List (S50), y_ = (y191 ++ l0) := ⟨_, rfl⟩
      replace H : (some y194) = some r := by first | (rw [hy194]; with_reducible exact H) | (have H2_ := (Option.bind_some _ _).symm.trans H; rw [hy194]; with_reducible exact H2_) | (have H2_ := (Option.bind_some _ _).symm.trans H; with_reducible exact H2_) | with_reducible exact H | (rw [hy194]; exact H) | exact H
      have Ny194 := Aside0.mk hy194
      clear hy194
      obtain rfl := Option.some.inj H
      go_enter Try.func66, Try.ntmps66
      go_wp2_with (first | ((with_reducible refine gate_dst (N := 5) rfl ?_); refine Kd.N_lit k50 _ 50 ?hg (N' := 5) ?hd (xs := ([] : List (S50))) (inner := []) (ok := (fun k_ => (P0_ k_ ∨ w.heap.size ≤ k_))) (okp := (fun k_ => (P0_ k_ ∨ w.heap.size ≤ k_))) ?hr ?hp (fun _ hk => hk) ((show ∀ k_, w.heap.size ≤ k_ → (fun k_ => (P0_ k_ ∨ w.heap.size ≤ k_)) k_ from fun k_ hk => (.inr (Nat.le_trans (below_size (by repeat (with_reducible first | exact HB.out | apply below_alloc | apply pw_below_drewN | apply below_drew1))) hk))) _ (Nat.le_refl _)) (Below.refl _ _) (Nat.le_refl _) (by simp) ?_; (case hd => rfl); (case hg => rfl); (case hr => first | (go_simp; done) | (go_simp; rfl)); (case hp => exact (Reps.none _ _)); intro v192 w3 ho4 hb hg_ hnew_; clear hg_ hnew_; (first | rw [← Ny191.out] at ho4 | (simp only [Int.reduceToNat] at ho4; rw [← Ny191.out] at ho4)); have n0_ := Aside0.mk (Kd.V_elder' (by (with_reducible repeat (first | apply Kd.V_alloc | apply Kd.V_drewN | apply Kd.V_drew)); exact HO0.out) (Kd.N_base ho4) hb); have n1_ := Aside0.mk (Kd.N_lower ho4 (below_size (by repeat (with_reducible first | exact HB.out | apply below_alloc | apply pw_below_drewN | apply below_drew1)))); have n2_ := Aside0.mk (below_step (by repeat (with_reducible first | exact HB.out | apply below_alloc | apply pw_below_drewN | apply below_drew1)) hb); clear HO0; clear HB; have HO0 := n0_; have HO193 := n1_; have HB := n2_; clear n0_ n1_ n2_; clear hb ho4) | ((with_reducible refine gate_builtin (b := .append) (xs := #[.tmp 5, .tmp 6]) rfl ?_); at_builtin; refine Kd.N_append_rows k50 (w0 := w) w.heap.size rfl (.tmp 5) (.tmp 6) 40 50 (.agg #[(.int .i64 0), (.int .i64 0), (.slice none 0 0), (.slice none 0 0)]) 64 rfl Try.underlying40 info50 rfl (by decide) (by omega) v192 y191 l0 _ _ _ (fun k_ => (P0_ k_ ∨ w.heap.size ≤ k_)) (fun k_ => ((fun k_ => (P0_ k_ ∨ w.heap.size ≤ k_))) k_ ∧ some k_ ≠ (v192 : Value).ownBlock) rfl rfl ?aO ?aR (fun _ hk => hk) ?aF ?aB ?aS ?aL ?_; (case aR => exact (by skip; exact Kd.V_F (Kd.V_mono (ok' := (fun k_ => ((fun k_ => (P0_ k_ ∨ w.heap.size ≤ k_))) k_ ∧ some k_ ≠ (v192 : Value).ownBlock)) (HO0.out) (fun k_ hk => ⟨hk.1, hk.2⟩)))); (case aB => exact (by repeat (with_reducible first | exact HB.out | apply below_alloc | apply pw_below_drewN | apply below_drew1))); (case aF => exact (fun k_ hk => (.inr (Nat.le_trans (below_size (by repeat (with_reducible first | exact HB.out | apply below_alloc | apply pw_below_drewN | apply below_drew1))) hk)))); (case aO => exact (by (with_reducible repeat (first | apply Kd.N_alloc | apply Kd.N_drewN | apply Kd.N_drew)); exact HO193.out)); (case aS => exact (below_size (by repeat (with_reducible first | exact HB.out | apply below_alloc | apply pw_below_drewN | apply below_drew1)))); (case aL => have := LMc2.out; omega); intro v195 w5 ho hb hg hat; rw [← Ny194.out] at ho; have n0_ := Aside0.mk (Kd.V_afterv (ok := (fun k_ => (P0_ k_ ∨ w.heap.size ≤ k_))) (by (with_reducible repeat (first | apply Kd.V_alloc | apply Kd.V_drewN | apply Kd.V_drew)); exact HO0.out) hg hat); have n1_ := Aside0.mk (hb); have n2_ := Aside0.mk (ho); clear HO0; clear HB; clear HO193; have HO0 := n0_; have HB := n1_; have HO196 := n2_; clear n0_ n1_ n2_; clear ho hb hg hat))
      go_ret
      exact ⟨_, by first | rfl | (simp [errW_none, errW_some] <;> rfl) | (simp [*, errW_none, errW_some] <;> rfl), by (with_reducible repeat (first | apply Kd.N_alloc | apply Kd.N_drewN | apply Kd.N_drew)); exact HO196.out, by repeat (with_reducible first | exact HB.out | apply below_alloc | apply pw_below_drewN | apply below_drew1)⟩
    · rw [if_neg c2] at H
      exact absurd H (by simp)

end Go.Proofs.Ytchcbncelckgeaa.PM
