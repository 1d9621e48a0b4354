/- The law functions of live: lived. -/
import Derived.Test.YtchcbncelckgeaaLvSn
import Derived.Test.YtchcbncelckgeaaPZ3
set_option linter.unusedVariables false
set_option linter.unusedSimpArgs false
namespace Go.Proofs.Ytchcbncelckgeaa.Lv
open Go.RowKit Go.Proofs.YtchcbncelckgeaaW.PrintWords Go.Proofs.YtchcbncelckgeaaW.PrintLast Go.Proofs.YtchcbncelckgeaaW.PrintMore Go.Proofs.Ytchcbncelckgeaa.PZ Go.Proofs.Ytchcbncelckgeaa.Hnd Go.Lib

theorem C_sp {w : World} {b : Nat} {o : List SP} (h : w.heap[b]? = some (.cells (cellsS o).toArray 105 (0, 0))) (hz : o.length ≤ 4611686018427387904) : Kd.C k105 w (some ⟨b, 0, none⟩) o.length o := by
  refine ⟨rfl, by omega, fun _ => ⟨_, rfl, fun j p hj => ⟨[.int .i64 p.f0, .int .i64 p.f1], rfl, k105_mk _ p, fun i u hu => ?_⟩⟩⟩
  obtain ⟨hlt, rfl⟩ := List.getElem?_eq_some_iff.1 hj
  obtain ⟨h0, h1⟩ := cellsS_get o j hlt
  show w.cell? ((⟨b, 0, none⟩ : Addr).add (j * 2 + i)) = _
  rw [add_b, blk_cell h, List.getElem?_toArray]
  rcases i with _ | _ | i
  · rw [Nat.add_zero, Nat.mul_comm, h0]; simpa using hu
  · rw [Nat.mul_comm, h1]; simpa using hu
  · simp at hu
def tL : TT := ⟨0, 0, 0, [⟨3, -1, -1, -1, 0, -1, ⟨0, 0⟩⟩], [], ⟨0, 0, [], []⟩, ⟨0, 0, [⟨0, 0⟩], []⟩⟩
theorem tL_good : GoodT tL.f2 tL.f3 tL.f4 tL.f5 tL.f6 where
  n := by decide
  e := by decide
  lo := by decide
  hi := by decide
  one := fun i hi => by
    have h : i = 0 := by have h_ : tL.f3.length = 1 := rfl; omega
    subst h
    decide
  tr := fun h => absurd h (by decide)
  ex := fun x hx => by
    have h : x = tL.f6 := by
      have h_ : x ∈ [tL.f6] := hx
      exact List.mem_singleton.1 h_
    subst h
    decide
  la := fun x hx => by
    have h_ : x ∈ [tL.f6, tL.f5] := hx
    rcases List.mem_cons.1 h_ with h | h
    · subst h; decide
    · rw [List.mem_singleton.1 h]; decide
theorem tL_spans : spansL tL = [⟨0, 1⟩] := by kernel_rfl
theorem tL_sz : TSz tL := ⟨by decide, by decide, fun x hx => by simp [tL] at hx, by decide, by decide⟩
set_option maxHeartbeats 16000000 in
set_option maxRecDepth 100000 in
theorem lived_calls (w : World) : Calls Try.prog 36 #[] w fun e w' => e = .returned (.bool true) ∧ Below w.heap.size w w' := by
  obtain ⟨oa, hoa⟩ : ∃ ob, ob = Obj.cells #[.int .i64 3, .int .i64 (-1), .int .i64 (-1), .int .i64 (-1), .int .i64 0, .int .i64 (-1), .int .i64 0, .int .i64 0] 103 := ⟨_, rfl⟩
  obtain ⟨oc, hoc⟩ : ∃ ob, ob = Obj.cells #[.int .i64 0, .int .i64 0] 34 := ⟨_, rfl⟩
  have hsa : (w.alloc oa).heap.size = w.heap.size + 1 := Array.size_push _
  have hsc : ((w.alloc oa).alloc oc).heap.size = w.heap.size + 1 + 1 := by rw [← hsa]; exact Array.size_push _
  obtain ⟨od, hod⟩ : ∃ ob, ob = Obj.cells #[.int .i64 0, .int .i64 0, .int .i64 0, .slice (some ⟨w.heap.size, 0, none⟩) 1 1, .slice none 0 0, .int .i64 0, .int .i64 0, .slice none 0 0, .slice none 0 0, .int .i64 0, .int .i64 0, .slice (some ⟨w.heap.size + 1, 0, none⟩) 1 1, .slice none 0 0] 97 := ⟨_, rfl⟩
  have hal := below_alloc (below_alloc (below_alloc (Below.refl w.heap.size w) oa) oc) od
  have HB := Aside0.mk hal
  have HA : Aside0 ((((w.alloc oa).alloc oc).alloc od).heap[w.heap.size]? = some (.cells [.int .i64 3, .int .i64 (-1), .int .i64 (-1), .int .i64 (-1), .int .i64 0, .int .i64 (-1), .int .i64 0, .int .i64 0].toArray 103 (0, 0))) := ⟨blk_alloc (blk_alloc (by rw [hoa]; exact blk_new w _) _) _⟩
  have HC : Aside0 ((((w.alloc oa).alloc oc).alloc od).heap[w.heap.size + 1]? = some (.cells [.int .i64 0, .int .i64 0].toArray 34 (0, 0))) := ⟨blk_alloc (by
    have h_ := blk_new (w.alloc oa) oc
    rw [hsa] at h_
    rw [hoc] at h_ ⊢
    exact h_) _⟩
  have HD : Aside0 ((((w.alloc oa).alloc oc).alloc od).heap[w.heap.size + 1 + 1]? = some (.cells #[.int .i64 0, .int .i64 0, .int .i64 0, .slice (some ⟨w.heap.size, 0, none⟩) 1 1, .slice none 0 0, .int .i64 0, .int .i64 0, .slice none 0 0, .slice none 0 0, .int .i64 0, .int .i64 0, .slice (some ⟨w.heap.size + 1, 0, none⟩) 1 1, .slice none 0 0] 97 (0, 0))) := ⟨by
    have h_ := blk_new ((w.alloc oa).alloc oc) od
    rw [hsc] at h_
    rw [hod] at h_ ⊢
    exact h_⟩
  clear hal
  go_enter Try.func36, Try.ntmps36
  go_upto_region 2 with fail
  rw [← hoa, ← hoc, ← hod]
  have HM : Aside0 (TMem (((w.alloc oa).alloc oc).alloc od) (A3 := some ⟨w.heap.size, 0, none⟩) (c3 := 1) (A4 := none) (c4 := 0) (A7 := none) (c7 := 0) (A8 := none) (c8 := 0) (A11 := some ⟨w.heap.size + 1, 0, none⟩) (c11 := 1) (A12 := none) (c12 := 0) tL) := ⟨⟨C_block HA.out (k103_mk _ ⟨3, -1, -1, -1, 0, -1, ⟨0, 0⟩⟩), Nat.le_refl _, Kd.C_nil _ _, Nat.le_refl _, Kd.C_nil _ _, Nat.le_refl _, Kd.C_nil _ _, Nat.le_refl _, C_block HC.out (k34_mk _ ⟨0, 0⟩), Nat.le_refl _, Kd.C_nil _ _, Nat.le_refl _⟩⟩
  clear hoa hoc hod hsa hsc HA HC
  generalize ((w.alloc oa).alloc oc).alloc od = w3 at HB HD HM ⊢
  have t0 := (blk_cell HD.out 0).trans rfl
  have t1 := (blk_cell HD.out 1).trans rfl
  have t2 := (blk_cell HD.out 2).trans rfl
  have t3 := (blk_cell HD.out 3).trans rfl
  have t4 := (blk_cell HD.out 4).trans rfl
  have t5 := (blk_cell HD.out 5).trans rfl
  have t6 := (blk_cell HD.out 6).trans rfl
  have t7 := (blk_cell HD.out 7).trans rfl
  have t8 := (blk_cell HD.out 8).trans rfl
  have t9 := (blk_cell HD.out 9).trans rfl
  have t10 := (blk_cell HD.out 10).trans rfl
  have t11 := (blk_cell HD.out 11).trans rfl
  have t12 := (blk_cell HD.out 12).trans rfl
  go_wp2_with fail
  refine (spans_calls w3 tL HM.out tL_sz).mono ?_
  rintro e w4 ⟨v, er, rfl, hiff, _, hok, hb4⟩
  have he : er = 0 := hiff.2 tL_good
  subst he
  obtain ⟨b2, rfl, hle, hc⟩ := hok rfl
  rw [tL_spans] at hc
  have HB4 := Aside0.mk (below_step HB.out hb4)
  have HC4 := Aside0.mk hc
  clear hiff hok hb4 hc hle t0 t1 t2 t3 t4 t5 t6 t7 t8 t9 t10 t11 t12
  have he0 : ((0 : Int) == 0) = true := by decide
  have hl1 : tL.f3.length = 1 := rfl
  obtain ⟨o9, ho9⟩ : ∃ ob, ob = Obj.cells #[.int .i64 0, .int .i64 1] 105 := ⟨_, rfl⟩
  have hal := below_alloc (Below.refl w4.heap.size w4) o9
  have HB9 := Aside0.mk (below_step HB4.out hal)
  have HC9 := Aside0.mk (blk_below HC4.out hal)
  have HN9 : Aside0 ((w4.alloc o9).heap[w4.heap.size]? = some (.cells [.int .i64 0, .int .i64 1].toArray 105 (0, 0))) := ⟨by rw [ho9]; exact blk_new w4 _⟩
  have HCALL := Aside0.mk (api_RSpan_60.calls 3 (some ⟨b2, 0, none⟩) 1 [⟨0, 1⟩] (some ⟨w4.heap.size, 0, none⟩) 1 [⟨0, 1⟩] true _ (C_sp HC9.out (by simp)) (Nat.le_refl _) (C_block HN9.out (k105_mk _ ⟨0, 1⟩)) (Nat.le_refl _) (by kernel_rfl))
  rw [ho9] at HCALL HB9
  clear hal HC9 HN9 ho9
  rw [hl1]
  go_wp2_with fail
  refine HCALL.out.mono ?_
  rintro e w5 ⟨rfl, hb5⟩
  have HB5 := Aside0.mk (below_step HB9.out hb5)
  clear hb5 HCALL
  go_wp2_with fail
  go_ret
  exact ⟨rfl, HB5.out⟩
end Go.Proofs.Ytchcbncelckgeaa.Lv
