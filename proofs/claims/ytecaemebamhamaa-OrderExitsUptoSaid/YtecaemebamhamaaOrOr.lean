/- The closed fact of the laws of order: ordered. -/
import Derived.Test.YtecaemebamhamaaOrCh
import Derived.Test.YtecaemebamhamaaOrLp
set_option linter.unusedVariables false
set_option linter.unusedSimpArgs false
namespace Go.Proofs.Ytecaemebamhamaa.Lv
open Go.RowKit Go.Proofs.YtecaemebamhamaaW.PrintWords Go.Proofs.YtecaemebamhamaaW.PrintLast Go.Proofs.YtecaemebamhamaaW.PrintMore Go.Proofs.Ytecaemebamhamaa.PO Go.Proofs.Ytecaemebamhamaa.Hnd Go.Lib

theorem C_two {α : Type} {d : Kd α} {W : World} {g t : Nat} {c1 c2 : List Value} {x y : α} (hb : W.heap[g]? = some (.cells (c1 ++ c2).toArray t (0, 0))) (h1 : d.K W x c1) (h2 : d.K W y c2) : d.C W (some ⟨g, 0, none⟩) 2 [x, y] := by
  refine ⟨rfl, by omega, fun _ => ⟨_, rfl, fun j p hj => ?_⟩⟩
  rcases j with _ | _ | j
  · simp only [List.getElem?_cons_zero, Option.some.injEq] at hj
    subst hj
    refine ⟨c1, d.K_len h1, h1, fun i u hu => ?_⟩
    rw [Nat.zero_mul, Nat.zero_add, add_plain, blk_cell hb i, List.getElem?_toArray]
    rw [List.getElem?_append_left (List.getElem?_eq_some_iff.1 hu).1]
    exact hu
  · simp only [Nat.zero_add, List.getElem?_cons_succ, List.getElem?_cons_zero, Option.some.injEq] at hj
    subst hj
    refine ⟨c2, d.K_len h2, h2, fun i u hu => ?_⟩
    rw [Nat.zero_add, Nat.one_mul, add_plain, blk_cell hb _, List.getElem?_toArray]
    rw [List.getElem?_append_right (by rw [d.K_len h1]; omega), d.K_len h1, Nat.add_sub_cancel_left]
    exact hu
  · simp at hj
theorem sz_ok : CSz cOk := ⟨by decide, by decide, fun x hx => by simp [cOk] at hx, by decide, by decide⟩
theorem sz_no : CSz cNo := ⟨by decide, by decide, fun x hx => by simp [cNo] at hx, by decide, by decide⟩
set_option maxHeartbeats 16000000 in
set_option maxRecDepth 100000 in
theorem ordered_calls (w : World) : Calls Try.prog 12 #[] w fun e w' => e = .returned (.bool true) ∧ Below w.heap.size w w' := by
  obtain ⟨oa, hoa⟩ : ∃ ob, ob = Obj.cells #[.int .i64 6, .int .i64 3, .int .i64 0, .int .i64 0, .int .i64 0, .int .i64 (-1), .int .i64 0, .int .i64 0, .int .i64 1, .int .i64 1, .int .i64 3, .int .i64 0, .int .i64 0, .int .i64 (-1), .int .i64 0, .int .i64 0] 37 := ⟨_, rfl⟩
  obtain ⟨oc, hoc⟩ : ∃ ob, ob = Obj.cells #[.int .i64 0, .int .i64 0, .int .i64 0, .int .i64 0, .slice (some ⟨w.heap.size, 0, none⟩) 2 2, .slice none 0 0, .int .i64 0, .int .i64 0, .slice none 0 0, .slice none 0 0, .int .i64 0, .int .i64 0, .slice none 0 0, .slice none 0 0] 29 := ⟨_, rfl⟩
  have hsa : (w.alloc oa).heap.size = w.heap.size + 1 := Array.size_push _
  have hal := below_alloc (below_alloc (Below.refl w.heap.size w) oa) oc
  have HB := Aside0.mk hal
  have HA : Aside0 (((w.alloc oa).alloc oc).heap[w.heap.size]? = some (.cells (([.int .i64 6, .int .i64 3, .int .i64 0, .int .i64 0, .int .i64 0, .int .i64 (-1), .int .i64 0, .int .i64 0] : List Value) ++ ([.int .i64 1, .int .i64 1, .int .i64 3, .int .i64 0, .int .i64 0, .int .i64 (-1), .int .i64 0, .int .i64 0] : List Value)).toArray 37 (0, 0))) := ⟨blk_alloc (by rw [hoa]; exact blk_new w _) _⟩
  have HC : Aside0 (((w.alloc oa).alloc oc).heap[w.heap.size + 1]? = some (.cells #[.int .i64 0, .int .i64 0, .int .i64 0, .int .i64 0, .slice (some ⟨w.heap.size, 0, none⟩) 2 2, .slice none 0 0, .int .i64 0, .int .i64 0, .slice none 0 0, .slice none 0 0, .int .i64 0, .int .i64 0, .slice none 0 0, .slice none 0 0] 29 (0, 0))) := ⟨by have h_ := blk_new (w.alloc oa) oc; rw [hsa] at h_; rw [hoc] at h_ ⊢; exact h_⟩
  clear hal
  go_enter Try.func12, Try.ntmps12
  go_upto_region 2 with fail
  rw [← hoa, ← hoc]
  clear hoa hoc hsa
  generalize (w.alloc oa).alloc oc = w2 at HB HA HC ⊢
  obtain ⟨oa, hoa⟩ : ∃ ob, ob = Obj.cells #[.int .i64 1, .int .i64 1, .int .i64 3, .int .i64 0, .int .i64 0, .int .i64 (-1), .int .i64 0, .int .i64 0] 37 := ⟨_, rfl⟩
  obtain ⟨oc, hoc⟩ : ∃ ob, ob = Obj.cells #[.int .i64 0, .int .i64 0, .int .i64 0, .int .i64 0, .slice (some ⟨w2.heap.size, 0, none⟩) 1 1, .slice none 0 0, .int .i64 0, .int .i64 0, .slice none 0 0, .slice none 0 0, .int .i64 0, .int .i64 0, .slice none 0 0, .slice none 0 0] 29 := ⟨_, rfl⟩
  have hsa : (w2.alloc oa).heap.size = w2.heap.size + 1 := Array.size_push _
  have hal := below_alloc (below_alloc (Below.refl w2.heap.size w2) oa) oc
  have HB4 := Aside0.mk (below_step HB.out hal)
  have HA4 := Aside0.mk (blk_below HA.out hal)
  have HC4 := Aside0.mk (blk_below HC.out hal)
  have HD : Aside0 (((w2.alloc oa).alloc oc).heap[w2.heap.size]? = some (.cells [.int .i64 1, .int .i64 1, .int .i64 3, .int .i64 0, .int .i64 0, .int .i64 (-1), .int .i64 0, .int .i64 0].toArray 37 (0, 0))) := ⟨blk_alloc (by rw [hoa]; exact blk_new w2 _) _⟩
  have HE : Aside0 (((w2.alloc oa).alloc oc).heap[w2.heap.size + 1]? = some (.cells #[.int .i64 0, .int .i64 0, .int .i64 0, .int .i64 0, .slice (some ⟨w2.heap.size, 0, none⟩) 1 1, .slice none 0 0, .int .i64 0, .int .i64 0, .slice none 0 0, .slice none 0 0, .int .i64 0, .int .i64 0, .slice none 0 0, .slice none 0 0] 29 (0, 0))) := ⟨by have h_ := blk_new (w2.alloc oa) oc; rw [hsa] at h_; rw [hoc] at h_ ⊢; exact h_⟩
  clear hal HB HA HC
  go_upto_region 3 with fail
  rw [← hoa, ← hoc]
  clear hoa hoc hsa
  generalize (w2.alloc oa).alloc oc = w4 at HB4 HA4 HC4 HD HE ⊢
  have y0 := (blk_cell HC4.out 0).trans rfl
  have y1 := (blk_cell HC4.out 1).trans rfl
  have y2 := (blk_cell HC4.out 2).trans rfl
  have y3 := (blk_cell HC4.out 3).trans rfl
  have y4 := (blk_cell HC4.out 4).trans rfl
  have y5 := (blk_cell HC4.out 5).trans rfl
  have y6 := (blk_cell HC4.out 6).trans rfl
  have y7 := (blk_cell HC4.out 7).trans rfl
  have y8 := (blk_cell HC4.out 8).trans rfl
  have y9 := (blk_cell HC4.out 9).trans rfl
  have y10 := (blk_cell HC4.out 10).trans rfl
  have y11 := (blk_cell HC4.out 11).trans rfl
  have y12 := (blk_cell HC4.out 12).trans rfl
  have y13 := (blk_cell HC4.out 13).trans rfl
  have HM : Aside0 (CMem w4 (AO := some ⟨w.heap.size, 0, none⟩) (cO := 2) (AE := none) (cE := 0) (A1 := none) (c1 := 0) (A2 := none) (c2 := 0) (A3 := none) (c3 := 0) (A4 := none) (c4 := 0) cOk) := ⟨⟨C_two HA4.out (k37_mk _ (oSelf 3)) (k37_mk _ (oMov 1 3)), Nat.le_refl _, Kd.C_nil _ _, Nat.le_refl _, Kd.C_nil _ _, Nat.le_refl _, Kd.C_nil _ _, Nat.le_refl _, Kd.C_nil _ _, Nat.le_refl _, Kd.C_nil _ _, Nat.le_refl _⟩⟩
  go_wp2_with fail
  refine (ocheck_calls w4 cOk HM.out sz_ok).mono ?_
  rintro e w5 ⟨er, rfl, hc, hb5⟩
  have he : er = 0 := hc.zero good_ok
  subst he
  have HB5 := Aside0.mk (below_step HB4.out hb5)
  have HD5 := Aside0.mk (blk_below HD.out hb5)
  have HE5 := Aside0.mk (blk_below HE.out hb5)
  clear hc hb5 HB4 HA4 HC4 HD HE HM y0 y1 y2 y3 y4 y5 y6 y7 y8 y9 y10 y11 y12 y13
  have y0 := (blk_cell HE5.out 0).trans rfl
  have y1 := (blk_cell HE5.out 1).trans rfl
  have y2 := (blk_cell HE5.out 2).trans rfl
  have y3 := (blk_cell HE5.out 3).trans rfl
  have y4 := (blk_cell HE5.out 4).trans rfl
  have y5 := (blk_cell HE5.out 5).trans rfl
  have y6 := (blk_cell HE5.out 6).trans rfl
  have y7 := (blk_cell HE5.out 7).trans rfl
  have y8 := (blk_cell HE5.out 8).trans rfl
  have y9 := (blk_cell HE5.out 9).trans rfl
  have y10 := (blk_cell HE5.out 10).trans rfl
  have y11 := (blk_cell HE5.out 11).trans rfl
  have y12 := (blk_cell HE5.out 12).trans rfl
  have y13 := (blk_cell HE5.out 13).trans rfl
  have HM : Aside0 (CMem w5 (AO := some ⟨w2.heap.size, 0, none⟩) (cO := 1) (AE := none) (cE := 0) (A1 := none) (c1 := 0) (A2 := none) (c2 := 0) (A3 := none) (c3 := 0) (A4 := none) (c4 := 0) cNo) := ⟨⟨C_block HD5.out (k37_mk _ (oMov 1 3)), Nat.le_refl _, Kd.C_nil _ _, Nat.le_refl _, Kd.C_nil _ _, Nat.le_refl _, Kd.C_nil _ _, Nat.le_refl _, Kd.C_nil _ _, Nat.le_refl _, Kd.C_nil _ _, Nat.le_refl _⟩⟩
  have he0 : ((0 : Int) == 0) = true := by decide
  go_wp2_with fail
  refine (ocheck_calls w5 cNo HM.out sz_no).mono ?_
  rintro e w6 ⟨er, rfl, hc, hb6⟩
  have he : er = 3 := no_three hc
  subst he
  have HB6 := Aside0.mk (below_step HB5.out hb6)
  clear hc hb6
  have he3 : ((3 : Int) == 3) = true := by decide
  go_wp2_with fail
  go_ret
  exact ⟨rfl, HB6.out⟩
end Go.Proofs.Ytecaemebamhamaa.Lv
