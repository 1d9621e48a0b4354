/- Package live walked: large, one. -/
import Derived.Test.YtchcbncelckgeaaLvFm
set_option linter.unusedVariables false
set_option linter.unusedSimpArgs false
namespace Go.Proofs.Ytchcbncelckgeaa.Lv
open Go.RowKit Go.Proofs.YtchcbncelckgeaaW.PrintWords Go.Proofs.YtchcbncelckgeaaW.PrintLast Go.Proofs.YtchcbncelckgeaaW.PrintMore Go.Proofs.Ytchcbncelckgeaa.PZ Go.Proofs.Ytchcbncelckgeaa.Hnd Go.Lib

set_option maxHeartbeats 8000000 in
set_option maxRecDepth 100000 in
theorem large1_calls (w : World) (m : TM) (A3 : Option Addr) (c3 : Nat) :
    Calls Try.prog 87 #[.agg #[.int .i64 m.f0, .int .i64 m.f1, .int .i64 m.f2, .slice A3 m.f3.length c3]] w fun e w' => e = .returned (.bool (largeM m)) ∧ Below w.heap.size w w' := by
  obtain ⟨ob, hob⟩ : ∃ ob, ob = Obj.cells #[.int .i64 m.f0, .int .i64 m.f1, .int .i64 m.f2, .slice A3 m.f3.length c3] 46 := ⟨_, rfl⟩
  have HB := Aside0.mk (below_alloc (Below.refl w.heap.size w) ob)
  have hsb : (w.alloc ob).heap[w.heap.size]? = some (.cells #[.int .i64 m.f0, .int .i64 m.f1, .int .i64 m.f2, .slice A3 m.f3.length c3] 46 (0, 0)) := by rw [hob]; exact blk_new w _
  have k3 := (blk_cell hsb 3).trans rfl
  rw [hob] at k3 HB
  unfold largeM
  clear hsb hob
  by_cases h : (m.f3.length : Int) > 100
  · have hd : decide ((m.f3.length : Int) > 100) = true := decide_eq_true h
    rw [hd]
    have hd2 : decide ((100 : Int) < (m.f3.length : Int)) = true := decide_eq_true h
    clear h
    go_enter Try.func87, Try.ntmps87
    go_wp2_with fail
    go_ret
    exact ⟨rfl, HB.out⟩
  · have hd : decide ((m.f3.length : Int) > 100) = false := decide_eq_false h
    rw [hd]
    have hd2 : decide ((100 : Int) < (m.f3.length : Int)) = false := decide_eq_false h
    clear h
    go_enter Try.func87, Try.ntmps87
    go_wp2_with fail
    go_ret
    exact ⟨rfl, HB.out⟩
set_option maxHeartbeats 8000000 in
set_option maxRecDepth 100000 in
theorem large_calls (w : World) (x : TX) (A2 : Option Addr) (c2 : Nat) (A3 : Option Addr) (c3 : Nat) (hm : Kd.C k46 w A3 x.f3.length x.f3) (hz : x.f3.length ≤ 2000000) :
    Calls Try.prog 78 #[.agg #[.int .i64 x.f0, .int .i64 x.f1, .slice A2 x.f2.length c2, .slice A3 x.f3.length c3]] w fun e w' => e = .returned (.bool (largeB x)) ∧ Below w.heap.size w w' := by
  obtain ⟨ob, hob⟩ : ∃ ob, ob = Obj.cells #[.int .i64 x.f0, .int .i64 x.f1, .slice A2 x.f2.length c2, .slice A3 x.f3.length c3] 31 := ⟨_, rfl⟩
  have hal := below_alloc (Below.refl w.heap.size w) ob
  have HB := Aside0.mk hal
  have hsb : (w.alloc ob).heap[w.heap.size]? = some (.cells #[.int .i64 x.f0, .int .i64 x.f1, .slice A2 x.f2.length c2, .slice A3 x.f3.length c3] 31 (0, 0)) := by rw [hob]; exact blk_new w _
  have k2 := (blk_cell hsb 2).trans rfl
  have k3 := (blk_cell hsb 3).trans rfl
  have HCALL := Aside0.mk (anyM_calls 87 #[] largeM (Go.Proofs.enters_of Try.func87 (by kernel_rfl) rfl) _ A3 c3 x.f3 (Kd.C_below hm hal) (fun W hW m hmem A c hC hc => large1_calls W m A c) hz)
  rw [hob] at k2 k3 HB HCALL
  clear hsb hob hal hm
  by_cases h0 : (x.f2.length : Int) > 60
  · have he : largeB x = true := by unfold largeB; rw [if_pos h0]
    have hd : decide ((x.f2.length : Int) > 60) = true := decide_eq_true h0
    have hd2 : decide ((60 : Int) < (x.f2.length : Int)) = true := decide_eq_true h0
    rw [he]
    clear h0 he
    go_enter Try.func78, Try.ntmps78
    go_wp2_with fail
    go_ret
    exact ⟨rfl, HB.out⟩
  · have hd : decide ((x.f2.length : Int) > 60) = false := decide_eq_false h0
    have hd2 : decide ((60 : Int) < (x.f2.length : Int)) = false := decide_eq_false h0
    by_cases h1 : (x.f3.length : Int) > 300
    · have he : largeB x = true := by unfold largeB; rw [if_neg h0, if_pos h1]
      have hd3 : decide ((x.f3.length : Int) > 300) = true := decide_eq_true h1
      have hd4 : decide ((300 : Int) < (x.f3.length : Int)) = true := decide_eq_true h1
      rw [he]
      clear h0 h1 he
      go_enter Try.func78, Try.ntmps78
      go_wp2_with fail
      go_ret
      exact ⟨rfl, HB.out⟩
    · have he : largeB x = x.f3.any largeM := by unfold largeB; rw [if_neg h0, if_neg h1]
      have hd3 : decide ((x.f3.length : Int) > 300) = false := decide_eq_false h1
      have hd4 : decide ((300 : Int) < (x.f3.length : Int)) = false := decide_eq_false h1
      rw [he]
      generalize x.f3.any largeM = r at HCALL ⊢
      clear h0 h1 he
      go_enter Try.func78, Try.ntmps78
      go_wp2_with (go_at_call 86; refine HCALL.out.mono ?_; rintro e w' ⟨rfl, hb'⟩)
      go_ret
      exact ⟨rfl, below_step HB.out hb'⟩
end Go.Proofs.Ytchcbncelckgeaa.Lv
