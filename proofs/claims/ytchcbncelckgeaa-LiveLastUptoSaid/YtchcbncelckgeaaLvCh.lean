/- Package live walked: Check. -/
import Derived.Test.YtchcbncelckgeaaLvCk
set_option linter.unusedVariables false
set_option linter.unusedSimpArgs false
namespace Go.Proofs.Ytchcbncelckgeaa.Lv
open Go.RowKit Go.Proofs.YtchcbncelckgeaaW.PrintWords Go.Proofs.YtchcbncelckgeaaW.PrintLast Go.Proofs.YtchcbncelckgeaaW.PrintMore Go.Proofs.Ytchcbncelckgeaa.PZ Go.Proofs.Ytchcbncelckgeaa.Hnd Go.Lib

set_option maxHeartbeats 16000000 in
set_option maxRecDepth 100000 in
theorem check_calls (w : World) {A3 : Option Addr} {c3 : Nat} {A4 : Option Addr} {c4 : Nat} {A7 : Option Addr} {c7 : Nat} {A8 : Option Addr} {c8 : Nat} {A11 : Option Addr} {c11 : Nat} {A12 : Option Addr} {c12 : Nat} (t : TT) (hm : TMem w (A3 := A3) (c3 := c3) (A4 := A4) (c4 := c4) (A7 := A7) (c7 := c7) (A8 := A8) (c8 := c8) (A11 := A11) (c11 := c11) (A12 := A12) (c12 := c12) t) (hz : TSz t) :
    Calls Try.prog 61 #[.agg #[.int .i64 t.f0, .int .i64 t.f1, .int .i64 t.f2, .slice A3 t.f3.length c3, .slice A4 t.f4.length c4, .int .i64 t.f5.f0, .int .i64 t.f5.f1, .slice A7 t.f5.f2.length c7, .slice A8 t.f5.f3.length c8, .int .i64 t.f6.f0, .int .i64 t.f6.f1, .slice A11 t.f6.f2.length c11, .slice A12 t.f6.f3.length c12]] w fun e w' => ∃ er : Int, e = .returned (.int .i64 er) ∧ (er = 0 ↔ GoodT t.f2 t.f3 t.f4 t.f5 t.f6) ∧ Below w.heap.size w w' := by
  obtain ⟨o1, ho1⟩ : ∃ ob, ob = Obj.cells #[.int .i64 t.f0, .int .i64 t.f1, .int .i64 t.f2, .slice A3 t.f3.length c3, .slice A4 t.f4.length c4, .int .i64 t.f5.f0, .int .i64 t.f5.f1, .slice A7 t.f5.f2.length c7, .slice A8 t.f5.f3.length c8, .int .i64 t.f6.f0, .int .i64 t.f6.f1, .slice A11 t.f6.f2.length c11, .slice A12 t.f6.f3.length c12] 97 := ⟨_, rfl⟩
  obtain ⟨o2, ho2⟩ : ∃ ob, ob = Obj.cells #[.int .i64 (t.f3.length : Int)] 3 := ⟨_, rfl⟩
  have hal1 := below_alloc (Below.refl w.heap.size w) o1
  have hal := below_alloc hal1 o2
  have hsz : (w.alloc o1).heap.size = w.heap.size + 1 := Array.size_push _
  have HT : Aside0 (((w.alloc o1).alloc o2).heap[w.heap.size]? = some (.cells #[.int .i64 t.f0, .int .i64 t.f1, .int .i64 t.f2, .slice A3 t.f3.length c3, .slice A4 t.f4.length c4, .int .i64 t.f5.f0, .int .i64 t.f5.f1, .slice A7 t.f5.f2.length c7, .slice A8 t.f5.f3.length c8, .int .i64 t.f6.f0, .int .i64 t.f6.f1, .slice A11 t.f6.f2.length c11, .slice A12 t.f6.f3.length c12] 97 (0, 0))) := ⟨blk_alloc (by rw [ho1]; exact blk_new w _) _⟩
  have HX : Aside0 (((w.alloc o1).alloc o2).heap[w.heap.size + 1]? = some (.cells #[.int .i64 (t.f3.length : Int)] 3 (0, 0))) := ⟨by
    have h_ := blk_new (w.alloc o1) o2
    rw [hsz] at h_
    rw [ho2] at h_ ⊢
    exact h_⟩
  have HBz := Aside0.mk hal
  have HM := Aside0.mk hm
  have HZ := Aside0.mk hz
  have s3 : (w.alloc o1).cell? ⟨w.heap.size, 3, none⟩ = some (.slice A3 t.f3.length c3) := by rw [ho1]; exact (blk_cell (blk_new w _) 3).trans rfl
  rw [ho1] at s3
  clear hal hal1 hm hz
  go_enter Try.func61, Try.ntmps61
  go_upto_region 2 with fail
  rw [← ho1, ← ho2]
  clear s3 ho1 ho2 hsz
  generalize (w.alloc o1).alloc o2 = wz at HT HX HBz ⊢
  have t4 := (blk_cell HT.out 4).trans rfl
  have t2 := (blk_cell HT.out 2).trans rfl
  have t3 := (blk_cell HT.out 3).trans rfl
  have n0 := (blk_cell HX.out 0).trans rfl
  by_cases h1 : (t.f3.length : Int) > 300
  · have hd : decide ((t.f3.length : Int) > 300) = true := decide_eq_true h1
    have hd' : decide ((300 : Int) < (t.f3.length : Int)) = true := decide_eq_true h1
    have HR : Aside0 (¬ GoodT t.f2 t.f3 t.f4 t.f5 t.f6) := ⟨fun h => by have := h.n; omega⟩
    clear h1
    go_wp2_with fail
    go_ret
    exact ⟨_, rfl, ne_iff' (by decide) HR.out, HBz.out⟩
  · have hd : decide ((t.f3.length : Int) > 300) = false := decide_eq_false h1
    have hd' : decide ((300 : Int) < (t.f3.length : Int)) = false := decide_eq_false h1
    by_cases h2 : (t.f4.length : Int) > 200
    · have hd2 : decide ((t.f4.length : Int) > 200) = true := decide_eq_true h2
      have hd2' : decide ((200 : Int) < (t.f4.length : Int)) = true := decide_eq_true h2
      have HR : Aside0 (¬ GoodT t.f2 t.f3 t.f4 t.f5 t.f6) := ⟨fun h => by have := h.e; omega⟩
      clear h1 h2
      go_wp2_with fail
      go_ret
      exact ⟨_, rfl, ne_iff' (by decide) HR.out, HBz.out⟩
    · have hd2 : decide ((t.f4.length : Int) > 200) = false := decide_eq_false h2
      have hd2' : decide ((200 : Int) < (t.f4.length : Int)) = false := decide_eq_false h2
      by_cases h3 : t.f2 < 0
      · have hd3 : decide (t.f2 < 0) = true := decide_eq_true h3
        have HR : Aside0 (¬ GoodT t.f2 t.f3 t.f4 t.f5 t.f6) := ⟨fun h => by have := h.lo; omega⟩
        clear h1 h2 h3
        go_wp2_with fail
        go_ret
        exact ⟨_, rfl, ne_iff' (by decide) HR.out, HBz.out⟩
      · have hd3 : decide (t.f2 < 0) = false := decide_eq_false h3
        by_cases h4 : t.f2 > (t.f3.length : Int)
        · have hd4 : decide (t.f2 > (t.f3.length : Int)) = true := decide_eq_true h4
          have hd4' : decide ((t.f3.length : Int) < t.f2) = true := decide_eq_true h4
          have HR : Aside0 (¬ GoodT t.f2 t.f3 t.f4 t.f5 t.f6) := ⟨fun h => by have := h.hi; omega⟩
          clear h1 h2 h3 h4
          go_wp2_with fail
          go_ret
          exact ⟨_, rfl, ne_iff' (by decide) HR.out, HBz.out⟩
        · have hd4 : decide (t.f2 > (t.f3.length : Int)) = false := decide_eq_false h4
          have hd4' : decide ((t.f3.length : Int) < t.f2) = false := decide_eq_false h4
          have HN : Aside0 (t.f3.length ≤ 300 ∧ t.f4.length ≤ 200 ∧ 0 ≤ t.f2 ∧ t.f2 ≤ (t.f3.length : Int)) := ⟨by omega, by omega, by omega, by omega⟩
          clear h1 h2 h3 h4
          go_wp2_with fail
          clear hd hd' hd2 hd2' hd3 hd4 hd4' t2 t3 t4 n0
          go_loopg [30] t.f3.length (fun kq v30 W => ∃ i : Nat, v30 = .int .i64 (i : Int) ∧ Aside0 (i ≤ t.f3.length ∧ kq = t.f3.length - i) ∧ Aside0 (∀ j : Nat, j < i → oneB t.f3 t.f4 (j : Int) = true) ∧ Aside0 (Below wz.heap.size wz W))
          case atStart => exact ⟨0, rfl, ⟨Nat.zero_le _, by omega⟩, ⟨fun j h => absurd h (Nat.not_lt_zero _)⟩, ⟨Below.refl _ _⟩⟩
          case round =>
            obtain ⟨i, rfl, HIQ, HA, HB⟩ := hrel
            by_cases hlt : i < t.f3.length
            · have hi1 : (i : Int) < (t.f3.length : Int) := by omega
              have hdec : decide ((i : Int) < (t.f3.length : Int)) = true := decide_eq_true hi1
              have hdec2 : decide (i < t.f3.length) = true := decide_eq_true hlt
              have HLT := Aside0.mk hlt
              have HW64 : Aside0 (wrap64 ((i : Int) + 1) = ((i + 1 : Nat) : Int)) := ⟨by have := HN.out.1; unfold wrap64; omega⟩
              clear hlt
              have t0 := (blk_cell (blk_below HT.out HB.out) 0).trans rfl
              have t1 := (blk_cell (blk_below HT.out HB.out) 1).trans rfl
              have t2 := (blk_cell (blk_below HT.out HB.out) 2).trans rfl
              have t3 := (blk_cell (blk_below HT.out HB.out) 3).trans rfl
              have t4 := (blk_cell (blk_below HT.out HB.out) 4).trans rfl
              have t5 := (blk_cell (blk_below HT.out HB.out) 5).trans rfl
              have t6 := (blk_cell (blk_below HT.out HB.out) 6).trans rfl
              have t7 := (blk_cell (blk_below HT.out HB.out) 7).trans rfl
              have t8 := (blk_cell (blk_below HT.out HB.out) 8).trans rfl
              have t9 := (blk_cell (blk_below HT.out HB.out) 9).trans rfl
              have t10 := (blk_cell (blk_below HT.out HB.out) 10).trans rfl
              have t11 := (blk_cell (blk_below HT.out HB.out) 11).trans rfl
              have t12 := (blk_cell (blk_below HT.out HB.out) 12).trans rfl
              go_wp2_with fail
              refine (one_calls _ t i HLT.out (HM.out.below (below_step HBz.out HB.out)) HZ.out).mono ?_
              rintro e w4 ⟨er, rfl, hiff, hb4⟩
              have HB4 := Aside0.mk (below_step HB.out hb4)
              have HI := Aside0.mk hiff
              clear hiff hb4
              by_cases he : er = 0
              · subst he
                have hed : ((0 : Int) != 0) = false := by decide
                go_wp2_with fail
                go_roundg (t.f3.length - (i + 1))
                case measure => have := HIQ.out; have := HLT.out; omega
                case rel =>
                  refine ⟨i + 1, by first | rfl | rw [HW64.out], ⟨by have := HLT.out; omega, rfl⟩, ⟨fun j hj => ?_⟩, HB4⟩
                  by_cases e : j = i
                  · subst e; exact HI.out.1 (by first | rfl | trivial)
                  · exact HA.out j (by omega)
              · have hed : (er != 0) = true := bne_iff_ne.mpr he
                have HR : Aside0 (¬ GoodT t.f2 t.f3 t.f4 t.f5 t.f6) := ⟨fun h => he (HI.out.2 (h.one i HLT.out))⟩
                have HE := Aside0.mk he
                clear he
                go_wp2_with fail
                go_ret
                exact ⟨_, rfl, ne_iff' HE.out HR.out, below_step HBz.out HB4.out⟩
            · have e_ : i = t.f3.length := by have := HIQ.out; omega
              subst e_
              have hdec : decide ((t.f3.length : Int) < (t.f3.length : Int)) = false := decide_eq_false (by omega)
              have hdec2 : decide (t.f3.length < t.f3.length) = false := decide_eq_false hlt
              have HBa := Aside0.mk (below_step HBz.out HB.out)
              have HTa := Aside0.mk (blk_below HT.out HB.out)
              have HXa := Aside0.mk (blk_below HX.out HB.out)
              clear hlt HIQ HB HT HX HBz
              generalize wr = wa at HBa HTa HXa ⊢
              have t0 := (blk_cell HTa.out 0).trans rfl
              have t1 := (blk_cell HTa.out 1).trans rfl
              have t2 := (blk_cell HTa.out 2).trans rfl
              have t3 := (blk_cell HTa.out 3).trans rfl
              have t4 := (blk_cell HTa.out 4).trans rfl
              have t5 := (blk_cell HTa.out 5).trans rfl
              have t6 := (blk_cell HTa.out 6).trans rfl
              have t7 := (blk_cell HTa.out 7).trans rfl
              have t8 := (blk_cell HTa.out 8).trans rfl
              have t9 := (blk_cell HTa.out 9).trans rfl
              have t10 := (blk_cell HTa.out 10).trans rfl
              have t11 := (blk_cell HTa.out 11).trans rfl
              have t12 := (blk_cell HTa.out 12).trans rfl
              have HMa := Aside0.mk (HM.out.below HBa.out)
              obtain ⟨KV, hKV⟩ := valsV_f t.f5 (Nat.le_trans HZ.out.tu (by decide))
              have HKV := Aside0.mk hKV
              have HVL : Aside0 ((valuesL t.f5).length ≤ 2000000) := ⟨Nat.le_trans (valuesL_len t.f5) (Nat.le_trans HZ.out.tu (by decide))⟩
              clear hKV
              go_wp2_with fail
              by_cases h5 : t.f2 > 0
              · have hd5 : decide (t.f2 > 0) = true := decide_eq_true h5
                have hd5' : decide (0 < t.f2) = true := decide_eq_true h5
                by_cases hal_ : allB t.f3 (valuesL t.f5) t.f2 = true
                · have HAL := Aside0.mk hal_
                  have HTR : Aside0 (0 < t.f2 → allB t.f3 (valuesL t.f5) t.f2 = true) := ⟨fun _ => HAL.out⟩
                  clear hal_ h5
                  refine start_ (n := 13) (S := fun w' => Below wa.heap.size wa w' ∧ w'.cell? ⟨w.heap.size, 0, none⟩ = some (.int .i64 t.f0) ∧ w'.cell? ⟨w.heap.size, 1, none⟩ = some (.int .i64 t.f1) ∧ w'.cell? ⟨w.heap.size, 2, none⟩ = some (.int .i64 t.f2) ∧ w'.cell? ⟨w.heap.size, 3, none⟩ = some (.slice A3 t.f3.length c3) ∧ w'.cell? ⟨w.heap.size, 4, none⟩ = some (.slice A4 t.f4.length c4) ∧ w'.cell? ⟨w.heap.size, 5, none⟩ = some (.int .i64 t.f5.f0) ∧ w'.cell? ⟨w.heap.size, 6, none⟩ = some (.int .i64 t.f5.f1) ∧ w'.cell? ⟨w.heap.size, 7, none⟩ = some (.slice A7 t.f5.f2.length c7) ∧ w'.cell? ⟨w.heap.size, 8, none⟩ = some (.slice A8 t.f5.f3.length c8) ∧ w'.cell? ⟨w.heap.size, 9, none⟩ = some (.int .i64 t.f6.f0) ∧ w'.cell? ⟨w.heap.size, 10, none⟩ = some (.int .i64 t.f6.f1) ∧ w'.cell? ⟨w.heap.size, 11, none⟩ = some (.slice A11 t.f6.f2.length c11) ∧ w'.cell? ⟨w.heap.size, 12, none⟩ = some (.slice A12 t.f6.f3.length c12)) (ds := []) #[false, false, false, false, false, false, false, false, false, false, false, false, false] (by kernel_rfl) rfl rfl ⟨(below_drew (Below.refl _ _)), t0, t1, t2, t3, t4, t5, t6, t7, t8, t9, t10, t11, t12⟩ (fun hHeld => ?_)
                  refine pure_ (i := 0) (N := some 40) (v := ?_) (a' := ?_) #[true, false, false, false, false, false, false, false, false, false, false, false, false] rfl rfl (by kernel_rfl) (fun _ _ _ h => h) (Or.inl ⟨by rfl, ?_⟩) ?_ ?_
                  rotate_left
                  · intro w'
                    go_simp
                    with_reducible rfl
                  rotate_left
                  · simp only [Act.put, List.setIfInBounds_toArray, List.set_cons_zero, List.set_cons_succ, i64_w, i32_w]
                    rfl
                  refine take_ (i := 1) (N := some 41) (v := ?_) (a' := ?_) #[true, true, false, false, false, false, false, false, false, false, false, false, false] rfl rfl (by kernel_rfl) (fun _ _ _ h => h) (Or.inl ⟨by rfl, ?_⟩) hHeld ?_ ?_
                  rotate_left
                  · rintro w' ⟨s0, s1, s2, s3, s4, s5, s6, s7, s8, s9, s10, s11, s12, s13⟩
                    go_simp
                    with_reducible rfl
                  rotate_left
                  · simp only [Act.put, List.setIfInBounds_toArray, List.set_cons_zero, List.set_cons_succ, i64_w, i32_w]
                    rfl
                  refine pure_ (i := 2) (N := some 42) (v := ?_) (a' := ?_) #[true, true, true, false, false, false, false, false, false, false, false, false, false] rfl rfl (by kernel_rfl) (fun _ _ _ h => h) (Or.inl ⟨by rfl, ?_⟩) ?_ ?_
                  rotate_left
                  · intro w'
                    go_simp
                    with_reducible rfl
                  rotate_left
                  · simp only [Act.put, List.setIfInBounds_toArray, List.set_cons_zero, List.set_cons_succ, i64_w, i32_w]
                    rfl
                  refine pure_ (i := 3) (N := some 43) (v := ?_) (a' := ?_) #[true, true, true, true, false, false, false, false, false, false, false, false, false] rfl rfl (by kernel_rfl) (fun _ _ _ h => h) (Or.inl ⟨by rfl, ?_⟩) ?_ ?_
                  rotate_left
                  · intro w'
                    go_simp
                    with_reducible rfl
                  rotate_left
                  · simp only [Act.put, List.setIfInBounds_toArray, List.set_cons_zero, List.set_cons_succ, i64_w, i32_w]
                    rfl
                  refine pure_ (i := 5) (N := some 45) (v := ?_) (a' := ?_) #[true, true, true, true, false, true, false, false, false, false, false, false, false] rfl rfl (by kernel_rfl) (fun _ _ _ h => h) (Or.inl ⟨by rfl, ?_⟩) ?_ ?_
                  rotate_left
                  · intro w'
                    go_simp
                    with_reducible rfl
                  rotate_left
                  · simp only [Act.put, List.setIfInBounds_toArray, List.set_cons_zero, List.set_cons_succ, i64_w, i32_w]
                    rfl
                  refine pure_ (i := 8) (N := some 48) (v := ?_) (a' := ?_) #[true, true, true, true, false, true, false, false, true, false, false, false, false] rfl rfl (by kernel_rfl) (fun _ _ _ h => h) (Or.inl ⟨by rfl, ?_⟩) ?_ ?_
                  rotate_left
                  · intro w'
                    go_simp
                    with_reducible rfl
                  rotate_left
                  · simp only [Act.put, List.setIfInBounds_toArray, List.set_cons_zero, List.set_cons_succ, i64_w, i32_w]
                    rfl
                  refine take_ (i := 4) (N := some 44) (v := ?_) (a' := ?_) #[true, true, true, true, true, true, false, false, true, false, false, false, false] rfl rfl (by kernel_rfl) (fun _ _ _ h => h) (Or.inl ⟨by rfl, ?_⟩) hHeld ?_ ?_
                  rotate_left
                  · rintro w' ⟨s0, s1, s2, s3, s4, s5, s6, s7, s8, s9, s10, s11, s12, s13⟩
                    go_simp
                    with_reducible rfl
                  rotate_left
                  · simp only [Act.put, List.setIfInBounds_toArray, List.set_cons_zero, List.set_cons_succ, i64_w, i32_w]
                    rfl
                  refine take_ (i := 6) (N := some 46) (v := ?_) (a' := ?_) #[true, true, true, true, true, true, true, false, true, false, false, false, false] rfl rfl (by kernel_rfl) (fun _ _ _ h => h) (Or.inl ⟨by rfl, ?_⟩) hHeld ?_ ?_
                  rotate_left
                  · rintro w' ⟨s0, s1, s2, s3, s4, s5, s6, s7, s8, s9, s10, s11, s12, s13⟩
                    go_simp
                    with_reducible rfl
                  rotate_left
                  · simp only [Act.put, List.setIfInBounds_toArray, List.set_cons_zero, List.set_cons_succ, i64_w, i32_w]
                    rfl
                  refine take_ (i := 9) (N := some 49) (v := ?_) (a' := ?_) #[true, true, true, true, true, true, true, false, true, true, false, false, false] rfl rfl (by kernel_rfl) (fun _ _ _ h => h) (Or.inl ⟨by rfl, ?_⟩) hHeld ?_ ?_
                  rotate_left
                  · rintro w' ⟨s0, s1, s2, s3, s4, s5, s6, s7, s8, s9, s10, s11, s12, s13⟩
                    go_simp
                    with_reducible rfl
                  rotate_left
                  · simp only [Act.put, List.setIfInBounds_toArray, List.set_cons_zero, List.set_cons_succ, i64_w, i32_w]
                    rfl
                  refine one_ (i := 7) (N := some 47) #[true, true, true, true, true, true, true, true, true, true, false, false, false] rfl rfl (by kernel_rfl) (by decide) (fun K hK => ?_)
                  refine goes_ Try.func65 (by kernel_rfl) rfl #[.agg #[.int .i64 t.f5.f0, .int .i64 t.f5.f1, .slice A7 t.f5.f2.length c7, .slice A8 t.f5.f3.length c8]] (by rfl) rfl rfl (by simp only [List.map_toArray, List.map_cons, List.map_nil]; rfl) ?_
                  with_reducible refine (live_Values.calls KV t.f5.f0 t.f5.f1 A7 c7 t.f5.f2 A8 c8 t.f5.f3 (valuesL t.f5) _ (Kd.C_below HMa.out.ts hHeld.1) HMa.out.tsc (Kd.C_below HMa.out.tm hHeld.1) HMa.out.tmc HKV.out).mono ?_
                  rintro e w7 ⟨v7, rfl, hR7, hb7⟩
                  refine ⟨_, rfl, ?_⟩
                  obtain ⟨A7_, a7, rfl⟩ := Kd.R_slice hR7
                  have hC7 := (Kd.R_reads' hR7).2.2
                  clear hR7
                  refine hK.out _ _ ⟨below_step hHeld.1 hb7, pw_cell_below hb7 hHeld.2.1, pw_cell_below hb7 hHeld.2.2.1, pw_cell_below hb7 hHeld.2.2.2.1, pw_cell_below hb7 hHeld.2.2.2.2.1, pw_cell_below hb7 hHeld.2.2.2.2.2.1, pw_cell_below hb7 hHeld.2.2.2.2.2.2.1, pw_cell_below hb7 hHeld.2.2.2.2.2.2.2.1, pw_cell_below hb7 hHeld.2.2.2.2.2.2.2.2.1, pw_cell_below hb7 hHeld.2.2.2.2.2.2.2.2.2.1, pw_cell_below hb7 hHeld.2.2.2.2.2.2.2.2.2.2.1, pw_cell_below hb7 hHeld.2.2.2.2.2.2.2.2.2.2.2.1, pw_cell_below hb7 hHeld.2.2.2.2.2.2.2.2.2.2.2.2.1, pw_cell_below hb7 hHeld.2.2.2.2.2.2.2.2.2.2.2.2.2⟩ (fun hHeld => ?_)
                  clear hK K
                  refine norm_ (a' := ?_) ?_ ?_
                  rotate_left
                  · show Act.put _ (some 47) _ = _
                    simp only [Act.put, List.setIfInBounds_toArray, List.set_cons_zero, List.set_cons_succ, i64_w, i32_w]
                    rfl
                  refine one_ (i := 10) (N := some 50) #[true, true, true, true, true, true, true, true, true, true, true, false, false] rfl rfl (by kernel_rfl) (by decide) (fun K hK => ?_)
                  refine goes_ Try.func75 (by kernel_rfl) rfl #[.agg #[.int .i64 t.f0, .int .i64 t.f1, .int .i64 t.f2, .slice A3 t.f3.length c3, .slice A4 t.f4.length c4, .int .i64 t.f5.f0, .int .i64 t.f5.f1, .slice A7 t.f5.f2.length c7, .slice A8 t.f5.f3.length c8, .int .i64 t.f6.f0, .int .i64 t.f6.f1, .slice A11 t.f6.f2.length c11, .slice A12 t.f6.f3.length c12], .slice A7_ (valuesL t.f5).length a7, .int .i64 t.f2] (by rfl) rfl rfl (by simp only [List.map_toArray, List.map_cons, List.map_nil]; rfl) ?_
                  with_reducible refine (all_calls_b _ t A7_ a7 (valuesL t.f5) t.f2 _ HAL.out (Kd.C_below HMa.out.i hHeld.1) hC7 HVL.out).mono ?_
                  rintro e w8 ⟨rfl, hb8⟩
                  refine ⟨_, rfl, ?_⟩
                  refine hK.out _ _ ⟨below_step hHeld.1 hb8, pw_cell_below hb8 hHeld.2.1, pw_cell_below hb8 hHeld.2.2.1, pw_cell_below hb8 hHeld.2.2.2.1, pw_cell_below hb8 hHeld.2.2.2.2.1, pw_cell_below hb8 hHeld.2.2.2.2.2.1, pw_cell_below hb8 hHeld.2.2.2.2.2.2.1, pw_cell_below hb8 hHeld.2.2.2.2.2.2.2.1, pw_cell_below hb8 hHeld.2.2.2.2.2.2.2.2.1, pw_cell_below hb8 hHeld.2.2.2.2.2.2.2.2.2.1, pw_cell_below hb8 hHeld.2.2.2.2.2.2.2.2.2.2.1, pw_cell_below hb8 hHeld.2.2.2.2.2.2.2.2.2.2.2.1, pw_cell_below hb8 hHeld.2.2.2.2.2.2.2.2.2.2.2.2.1, pw_cell_below hb8 hHeld.2.2.2.2.2.2.2.2.2.2.2.2.2⟩ (fun hHeld => ?_)
                  clear hK K
                  refine norm_ (a' := ?_) ?_ ?_
                  rotate_left
                  · show Act.put _ (some 50) _ = _
                    simp only [Act.put, List.setIfInBounds_toArray, List.set_cons_zero, List.set_cons_succ, i64_w, i32_w]
                    rfl
                  refine pure_ (i := 11) (N := some 51) (v := ?_) (a' := ?_) #[true, true, true, true, true, true, true, true, true, true, true, true, false] rfl rfl (by kernel_rfl) (fun _ _ _ h => h) (Or.inl ⟨by rfl, ?_⟩) ?_ ?_
                  rotate_left
                  · intro w'
                    go_simp
                    with_reducible rfl
                  rotate_left
                  · simp only [Act.put, List.setIfInBounds_toArray, List.set_cons_zero, List.set_cons_succ, i64_w, i32_w]
                    rfl
                  refine pure_ (i := 12) (N := some 52) (v := ?_) (a' := ?_) #[true, true, true, true, true, true, true, true, true, true, true, true, true] rfl rfl (by kernel_rfl) (fun _ _ _ h => h) (Or.inl ⟨by rfl, ?_⟩) ?_ ?_
                  rotate_left
                  · intro w'
                    go_simp
                    with_reducible rfl
                  rotate_left
                  · simp only [Act.put, List.setIfInBounds_toArray, List.set_cons_zero, List.set_cons_succ, i64_w, i32_w]
                    rfl
                  refine done_ (by kernel_rfl) ?_
                  have HBv := Aside0.mk (below_step HBa.out hHeld.1)
                  have HTv := Aside0.mk (blk_below HTa.out hHeld.1)
                  have HXv := Aside0.mk (blk_below HXa.out hHeld.1)
                  clear hHeld t0 t1 t2 t3 t4 t5 t6 t7 t8 t9 t10 t11 t12
                  clear HBa HTa HXa HMa
                  first | generalize w8 = wv at HBv HTv HXv ⊢ | generalize wa.drew = wv at HBv HTv HXv ⊢ | generalize hwv : wa.drewN _ = wv at HBv HTv HXv ⊢
                  have t0 := (blk_cell HTv.out 0).trans rfl
                  have t1 := (blk_cell HTv.out 1).trans rfl
                  have t2 := (blk_cell HTv.out 2).trans rfl
                  have t3 := (blk_cell HTv.out 3).trans rfl
                  have t4 := (blk_cell HTv.out 4).trans rfl
                  have t5 := (blk_cell HTv.out 5).trans rfl
                  have t6 := (blk_cell HTv.out 6).trans rfl
                  have t7 := (blk_cell HTv.out 7).trans rfl
                  have t8 := (blk_cell HTv.out 8).trans rfl
                  have t9 := (blk_cell HTv.out 9).trans rfl
                  have t10 := (blk_cell HTv.out 10).trans rfl
                  have t11 := (blk_cell HTv.out 11).trans rfl
                  have t12 := (blk_cell HTv.out 12).trans rfl
                  have HU := Try.underlying95
                  have HEF := Aside0.mk (Kd.F_below (Kd.C_F k31_heap HM.out.e) HBv.out)
                  have HKB : Aside0 (Kd.FK k31 wv (fun k_ => k_ < w.heap.size) t.f6 [.int .i64 t.f6.f0, .int .i64 t.f6.f1, .slice A11 t.f6.f2.length c11, .slice A12 t.f6.f3.length c12]) := ⟨mkF31 t.f6 HM.out.bsc (Kd.F_below (Kd.C_F k34_heap HM.out.bs) HBv.out) HM.out.bmc (Kd.F_below (Kd.C_F k46_heap HM.out.bm) HBv.out)⟩
                  go_upto_region 16 with (first | ((with_reducible refine gate_dst (N := 55) rfl ?_); refine Kd.N_lit k31 _ 31 ?hg (N' := 55) ?hd (xs := [t.f6]) (inner := [.int .i64 t.f6.f0, .int .i64 t.f6.f1, .slice A11 t.f6.f2.length c11, .slice A12 t.f6.f3.length c12]) (ok := fun k_ => k_ < w.heap.size ∨ wv.heap.size ≤ k_) (okp := fun k_ => k_ < w.heap.size) ?hr ?hp (fun _ hk => .inl hk) (.inr (Nat.le_refl _)) (Below.refl _ _) (Nat.le_refl _) (by simp) ?_; (case hd => rfl); (case hg => rfl); (case hr => first | (go_simp; done) | (go_simp; rfl)); (case hp => exact Reps.front HKB.out rfl (Reps.none _ _) rfl); intro v7 w7 ho hb hg hnew; have HO7 := Aside0.mk ho; have HB7 := Aside0.mk hb; have t4_ := pw_cell_below hb t4; clear ho hb hg hnew) | ((with_reducible refine gate_builtin (b := .append) (xs := #[.tmp 55, .tmp 57]) rfl ?_); refine Kd.N_append_rows k31 (w0 := wv) wv.heap.size rfl (.tmp 55) (.tmp 57) 95 31 (.agg #[.int .i64 0, .int .i64 0, .slice none 0 0, .slice none 0 0]) 64 rfl HU info31 rfl (by decide) (by decide) v7 [t.f6] t.f4 A4 t.f4.length c4 (fun k_ => k_ < w.heap.size ∨ wv.heap.size ≤ k_) (fun k_ => k_ < w.heap.size) rfl rfl HO7.out (Kd.F_below HEF.out HB7.out) ?ho ?hf HB7.out HB7.out.size ?hl ?_; (case ho => exact fun k hk => ⟨.inl hk, fun e => by have h1_ := Kd.N_base HO7.out k e.symm; have h2_ := HBv.out.size; omega⟩); (case hf => exact fun k hk => .inr (Nat.le_trans HB7.out.size hk)); (case hl => have h_ := HN.out.2.1; simp; omega); intro v8 w8_ ho hb hg hat; have HO8 := Aside0.mk ho; have HB8 := Aside0.mk hb; clear ho hb hg hat))
                  obtain ⟨A8_, a8, e8⟩ := Kd.N_slice HO8.out
                  subst e8
                  have HT8 := Aside0.mk (blk_below HTv.out HB8.out)
                  have HX8 := Aside0.mk (blk_below HXv.out HB8.out)
                  have HW8 := Aside0.mk (below_step HBv.out HB8.out)
                  have HC8 := Aside0.mk (Kd.N_reads' HO8.out).2.2
                  have HS8 : Aside0 (∀ x ∈ [t.f6] ++ t.f4, bigX x ≤ 1048576) := ⟨fun x hx => by
                    rcases List.mem_append.1 hx with h | h
                    · rw [List.mem_singleton.1 h]; exact HZ.out.ba
                    · exact HZ.out.x x h⟩
                  have HL8 : Aside0 (([t.f6] ++ t.f4).length ≤ 2000000) := ⟨by have := HN.out.2.1; simp; omega⟩
                  clear HO7 HB7 HKB t4_ t0 t1 t2 t3 t4 t5 t6 t7 t8 t9 t10 t11 t12
                  go_wp2_with fail
                  refine (anyX_calls 77 #[.pointer (some ⟨w.heap.size, 0, none⟩), .pointer (some ⟨w.heap.size + 1, 0, none⟩)] (fun x => !allB t.f3 (valuesL x) (t.f3.length : Int)) (Go.Proofs.enters_of Try.func77 (by kernel_rfl) rfl) _ A8_ a8 ([t.f6] ++ t.f4) HC8.out (fun W hW x hx A2 c2 A3 c3 h2 hc2 h3 hc3 => chk1_calls W t x _ A2 c2 A3 c3 _ _ (blk_below HT8.out hW) (blk_below HX8.out hW) (Kd.C_below HM.out.i (below_step HW8.out hW)) h2 hc2 h3 hc3 (Nat.le_trans (HS8.out x hx) (by decide))) HL8.out).mono ?_
                  rintro e w9 ⟨rfl, hb9⟩
                  have HB9 := Aside0.mk (below_step HB8.out hb9)
                  have HO9 := Aside0.mk (Kd.N_below HO8.out hb9)
                  have HT9 := Aside0.mk (blk_below HT8.out hb9)
                  have HW9 := Aside0.mk (below_step HW8.out hb9)
                  clear hb9 HB8 HO8 HT8 HX8 HW8 HC8
                  by_cases hany : ([t.f6] ++ t.f4).any (fun x => !allB t.f3 (valuesL x) (t.f3.length : Int)) = true
                  · rw [hany]
                    have HR : Aside0 (¬ GoodT t.f2 t.f3 t.f4 t.f5 t.f6) := ⟨fun h => by
                      obtain ⟨x, hx, hp⟩ := List.any_eq_true.1 hany
                      rw [h.ex x hx] at hp
                      exact absurd hp (by decide)⟩
                    clear hany
                    go_wp2_with fail
                    go_ret
                    exact ⟨_, rfl, ne_iff' (by decide) HR.out, HW9.out⟩
                  · have hany : ([t.f6] ++ t.f4).any (fun x => !allB t.f3 (valuesL x) (t.f3.length : Int)) = false := by simpa using hany
                    rw [hany]
                    have HEX : Aside0 (∀ x ∈ t.f6 :: t.f4, allB t.f3 (valuesL x) (t.f3.length : Int) = true) := ⟨fun x hx => by
                      have h_ := List.any_eq_false.1 hany x hx
                      simpa using h_⟩
                    clear hany
                    have t0 := (blk_cell HT9.out 0).trans rfl
                    have t1 := (blk_cell HT9.out 1).trans rfl
                    have t2 := (blk_cell HT9.out 2).trans rfl
                    have t3 := (blk_cell HT9.out 3).trans rfl
                    have t4 := (blk_cell HT9.out 4).trans rfl
                    have t5 := (blk_cell HT9.out 5).trans rfl
                    have t6 := (blk_cell HT9.out 6).trans rfl
                    have t7 := (blk_cell HT9.out 7).trans rfl
                    have t8 := (blk_cell HT9.out 8).trans rfl
                    have t9 := (blk_cell HT9.out 9).trans rfl
                    have t10 := (blk_cell HT9.out 10).trans rfl
                    have t11 := (blk_cell HT9.out 11).trans rfl
                    have t12 := (blk_cell HT9.out 12).trans rfl
                    have HKT : Aside0 (Kd.FK k31 w9 (fun k_ => k_ < w.heap.size) t.f5 [.int .i64 t.f5.f0, .int .i64 t.f5.f1, .slice A7 t.f5.f2.length c7, .slice A8 t.f5.f3.length c8]) := ⟨mkF31 t.f5 HM.out.tsc (Kd.F_below (Kd.C_F k34_heap HM.out.ts) HW9.out) HM.out.tmc (Kd.F_below (Kd.C_F k46_heap HM.out.tm) HW9.out)⟩
                    go_wp2_with (first | ((with_reducible refine gate_dst (N := 65) rfl ?_); refine Kd.N_lit k31 _ 31 ?hg (N' := 65) ?hd (xs := [t.f5]) (inner := [.int .i64 t.f5.f0, .int .i64 t.f5.f1, .slice A7 t.f5.f2.length c7, .slice A8 t.f5.f3.length c8]) (ok := fun k_ => k_ < w.heap.size ∨ w9.heap.size ≤ k_) (okp := fun k_ => k_ < w.heap.size) ?hr ?hp (fun _ hk => .inl hk) (.inr (Nat.le_refl _)) (Below.refl _ _) (Nat.le_refl _) (by simp) ?_; (case hd => rfl); (case hg => rfl); (case hr => first | (go_simp; done) | (go_simp; rfl)); (case hp => exact Reps.front HKT.out rfl (Reps.none _ _) rfl); intro v10 w10 ho hb hg hnew; obtain ⟨A10, a10, e10⟩ := Kd.N_slice ho; subst e10; have HO10 := Aside0.mk ho; have HB10 := Aside0.mk hb; clear ho hb hg hnew) | ((with_reducible refine gate_builtin (b := .append) (xs := #[.tmp 62, .tmp 65]) rfl ?_); refine Kd.N_append_rows k31 (w0 := wv) wv.heap.size rfl (.tmp 62) (.tmp 65) 95 31 (.agg #[.int .i64 0, .int .i64 0, .slice none 0 0, .slice none 0 0]) 64 rfl HU info31 rfl (by decide) (by decide) (.slice A8_ ([t.f6] ++ t.f4).length a8) ([t.f6] ++ t.f4) [t.f5] A10 1 a10 (fun k_ => k_ < w.heap.size ∨ wv.heap.size ≤ k_) (fun k_ => k_ < w.heap.size ∨ w9.heap.size ≤ k_) rfl rfl (Kd.N_below HO9.out HB10.out) (Kd.N_F HO10.out) ?ho ?hf (HB9.out.trans (below_cut HB10.out HB9.out.size)) (Nat.le_trans HB9.out.size HB10.out.size) ?hl ?_; (case ho => exact fun k hk => ⟨hk.imp id (fun h => Nat.le_trans HB9.out.size h), fun e => by have h1_ := Kd.N_base HO9.out k e.symm; have h2_ := HBv.out.size; have h3_ := Kd.N_lt HO9.out k e.symm; omega⟩); (case hf => exact fun k hk => .inr (Nat.le_trans HB9.out.size (Nat.le_trans HB10.out.size hk))); (case hl => have h_ := HN.out.2.1; simp; omega); intro v11 w11 ho hb hg hat; obtain ⟨A11_, a11, e11⟩ := Kd.N_slice ho; subst e11; have HO11 := Aside0.mk ho; have HB11 := Aside0.mk hb; clear ho hb hg hat))
                    have HW11 := Aside0.mk (HBv.out.trans (below_cut HB11.out HBv.out.size))
                    have hs11 : ∀ x ∈ [t.f6] ++ t.f4 ++ [t.f5], x.f3.length ≤ 2000000 := fun x hx => by
                      have h1_ : bigX x ≤ 1048576 := by
                        rcases List.mem_append.1 hx with h | h
                        · exact HS8.out x h
                        · rw [List.mem_singleton.1 h]; exact HZ.out.tu
                      have h2_ := makes_len x.f3
                      have h3_ : (x.f3.map (fun m => m.f3.length + 2)).sum ≤ bigX x := Nat.le_add_left _ _
                      exact Nat.le_trans (by omega : x.f3.length ≤ 2 * x.f3.length) (Nat.le_trans h2_ (Nat.le_trans h3_ (Nat.le_trans h1_ (by decide))))
                    have hcall := anyX_calls 78 #[] largeB (Go.Proofs.enters_of Try.func78 (by kernel_rfl) rfl) _ A11_ a11 ([t.f6] ++ t.f4 ++ [t.f5]) (Kd.N_reads' HO11.out).2.2 (fun W hW x hx A2 c2 A3 c3 h2 hc2 h3 hc3 => large_calls W x A2 c2 A3 c3 h3 (hs11 x hx)) (by have h_ := HN.out.2.1; simp; omega)
                    rw [show ([t.f6] ++ t.f4 ++ [t.f5]).length = t.f4.length + 1 + 1 from by simp] at hcall
                    clear hs11
                    refine hcall.mono ?_
                    clear hcall
                    rintro e w12 ⟨rfl, hb12⟩
                    have HB12 := Aside0.mk (below_step HW11.out hb12)
                    clear hb12 HO11 HO9 t0 t1 t2 t3 t4 t5 t6 t7 t8 t9 t10 t11 t12
                    by_cases hla : ([t.f6] ++ t.f4 ++ [t.f5]).any largeB = true
                    · rw [hla]
                      have HR : Aside0 (¬ GoodT t.f2 t.f3 t.f4 t.f5 t.f6) := ⟨fun h => by
                        obtain ⟨x, hx, hp⟩ := List.any_eq_true.1 hla
                        rw [h.la x hx] at hp
                        exact absurd hp (by decide)⟩
                      clear hla
                      go_wp2_with fail
                      go_ret
                      exact ⟨_, rfl, ne_iff' (by decide) HR.out, HB12.out⟩
                    · have hla : ([t.f6] ++ t.f4 ++ [t.f5]).any largeB = false := by simpa using hla
                      rw [hla]
                      have HR : Aside0 (GoodT t.f2 t.f3 t.f4 t.f5 t.f6) := ⟨⟨HN.out.1, HN.out.2.1, HN.out.2.2.1, HN.out.2.2.2, fun i hi => HA.out i hi, HTR.out, HEX.out, fun x hx => by
                        have h_ := List.any_eq_false.1 hla x hx
                        simpa using h_⟩⟩
                      clear hla
                      go_wp2_with fail
                      go_ret
                      exact ⟨_, rfl, eq_iff' HR.out, HB12.out⟩
                · have hal_ : allB t.f3 (valuesL t.f5) t.f2 = false := by simpa using hal_
                  have HAL := Aside0.mk hal_
                  have HR : Aside0 (¬ GoodT t.f2 t.f3 t.f4 t.f5 t.f6) := ⟨fun h => by have h_ := h.tr h5; rw [HAL.out] at h_; exact absurd h_ (by decide)⟩
                  clear hal_ h5
                  refine start_ (n := 13) (S := fun w' => Below wa.heap.size wa w' ∧ w'.cell? ⟨w.heap.size, 0, none⟩ = some (.int .i64 t.f0) ∧ w'.cell? ⟨w.heap.size, 1, none⟩ = some (.int .i64 t.f1) ∧ w'.cell? ⟨w.heap.size, 2, none⟩ = some (.int .i64 t.f2) ∧ w'.cell? ⟨w.heap.size, 3, none⟩ = some (.slice A3 t.f3.length c3) ∧ w'.cell? ⟨w.heap.size, 4, none⟩ = some (.slice A4 t.f4.length c4) ∧ w'.cell? ⟨w.heap.size, 5, none⟩ = some (.int .i64 t.f5.f0) ∧ w'.cell? ⟨w.heap.size, 6, none⟩ = some (.int .i64 t.f5.f1) ∧ w'.cell? ⟨w.heap.size, 7, none⟩ = some (.slice A7 t.f5.f2.length c7) ∧ w'.cell? ⟨w.heap.size, 8, none⟩ = some (.slice A8 t.f5.f3.length c8) ∧ w'.cell? ⟨w.heap.size, 9, none⟩ = some (.int .i64 t.f6.f0) ∧ w'.cell? ⟨w.heap.size, 10, none⟩ = some (.int .i64 t.f6.f1) ∧ w'.cell? ⟨w.heap.size, 11, none⟩ = some (.slice A11 t.f6.f2.length c11) ∧ w'.cell? ⟨w.heap.size, 12, none⟩ = some (.slice A12 t.f6.f3.length c12)) (ds := []) #[false, false, false, false, false, false, false, false, false, false, false, false, false] (by kernel_rfl) rfl rfl ⟨(below_drew (Below.refl _ _)), t0, t1, t2, t3, t4, t5, t6, t7, t8, t9, t10, t11, t12⟩ (fun hHeld => ?_)
                  refine pure_ (i := 0) (N := some 40) (v := ?_) (a' := ?_) #[true, false, false, false, false, false, false, false, false, false, false, false, false] rfl rfl (by kernel_rfl) (fun _ _ _ h => h) (Or.inl ⟨by rfl, ?_⟩) ?_ ?_
                  rotate_left
                  · intro w'
                    go_simp
                    with_reducible rfl
                  rotate_left
                  · simp only [Act.put, List.setIfInBounds_toArray, List.set_cons_zero, List.set_cons_succ, i64_w, i32_w]
                    rfl
                  refine take_ (i := 1) (N := some 41) (v := ?_) (a' := ?_) #[true, true, false, false, false, false, false, false, false, false, false, false, false] rfl rfl (by kernel_rfl) (fun _ _ _ h => h) (Or.inl ⟨by rfl, ?_⟩) hHeld ?_ ?_
                  rotate_left
                  · rintro w' ⟨s0, s1, s2, s3, s4, s5, s6, s7, s8, s9, s10, s11, s12, s13⟩
                    go_simp
                    with_reducible rfl
                  rotate_left
                  · simp only [Act.put, List.setIfInBounds_toArray, List.set_cons_zero, List.set_cons_succ, i64_w, i32_w]
                    rfl
                  refine pure_ (i := 2) (N := some 42) (v := ?_) (a' := ?_) #[true, true, true, false, false, false, false, false, false, false, false, false, false] rfl rfl (by kernel_rfl) (fun _ _ _ h => h) (Or.inl ⟨by rfl, ?_⟩) ?_ ?_
                  rotate_left
                  · intro w'
                    go_simp
                    with_reducible rfl
                  rotate_left
                  · simp only [Act.put, List.setIfInBounds_toArray, List.set_cons_zero, List.set_cons_succ, i64_w, i32_w]
                    rfl
                  refine pure_ (i := 3) (N := some 43) (v := ?_) (a' := ?_) #[true, true, true, true, false, false, false, false, false, false, false, false, false] rfl rfl (by kernel_rfl) (fun _ _ _ h => h) (Or.inl ⟨by rfl, ?_⟩) ?_ ?_
                  rotate_left
                  · intro w'
                    go_simp
                    with_reducible rfl
                  rotate_left
                  · simp only [Act.put, List.setIfInBounds_toArray, List.set_cons_zero, List.set_cons_succ, i64_w, i32_w]
                    rfl
                  refine pure_ (i := 5) (N := some 45) (v := ?_) (a' := ?_) #[true, true, true, true, false, true, false, false, false, false, false, false, false] rfl rfl (by kernel_rfl) (fun _ _ _ h => h) (Or.inl ⟨by rfl, ?_⟩) ?_ ?_
                  rotate_left
                  · intro w'
                    go_simp
                    with_reducible rfl
                  rotate_left
                  · simp only [Act.put, List.setIfInBounds_toArray, List.set_cons_zero, List.set_cons_succ, i64_w, i32_w]
                    rfl
                  refine pure_ (i := 8) (N := some 48) (v := ?_) (a' := ?_) #[true, true, true, true, false, true, false, false, true, false, false, false, false] rfl rfl (by kernel_rfl) (fun _ _ _ h => h) (Or.inl ⟨by rfl, ?_⟩) ?_ ?_
                  rotate_left
                  · intro w'
                    go_simp
                    with_reducible rfl
                  rotate_left
                  · simp only [Act.put, List.setIfInBounds_toArray, List.set_cons_zero, List.set_cons_succ, i64_w, i32_w]
                    rfl
                  refine take_ (i := 4) (N := some 44) (v := ?_) (a' := ?_) #[true, true, true, true, true, true, false, false, true, false, false, false, false] rfl rfl (by kernel_rfl) (fun _ _ _ h => h) (Or.inl ⟨by rfl, ?_⟩) hHeld ?_ ?_
                  rotate_left
                  · rintro w' ⟨s0, s1, s2, s3, s4, s5, s6, s7, s8, s9, s10, s11, s12, s13⟩
                    go_simp
                    with_reducible rfl
                  rotate_left
                  · simp only [Act.put, List.setIfInBounds_toArray, List.set_cons_zero, List.set_cons_succ, i64_w, i32_w]
                    rfl
                  refine take_ (i := 6) (N := some 46) (v := ?_) (a' := ?_) #[true, true, true, true, true, true, true, false, true, false, false, false, false] rfl rfl (by kernel_rfl) (fun _ _ _ h => h) (Or.inl ⟨by rfl, ?_⟩) hHeld ?_ ?_
                  rotate_left
                  · rintro w' ⟨s0, s1, s2, s3, s4, s5, s6, s7, s8, s9, s10, s11, s12, s13⟩
                    go_simp
                    with_reducible rfl
                  rotate_left
                  · simp only [Act.put, List.setIfInBounds_toArray, List.set_cons_zero, List.set_cons_succ, i64_w, i32_w]
                    rfl
                  refine take_ (i := 9) (N := some 49) (v := ?_) (a' := ?_) #[true, true, true, true, true, true, true, false, true, true, false, false, false] rfl rfl (by kernel_rfl) (fun _ _ _ h => h) (Or.inl ⟨by rfl, ?_⟩) hHeld ?_ ?_
                  rotate_left
                  · rintro w' ⟨s0, s1, s2, s3, s4, s5, s6, s7, s8, s9, s10, s11, s12, s13⟩
                    go_simp
                    with_reducible rfl
                  rotate_left
                  · simp only [Act.put, List.setIfInBounds_toArray, List.set_cons_zero, List.set_cons_succ, i64_w, i32_w]
                    rfl
                  refine one_ (i := 7) (N := some 47) #[true, true, true, true, true, true, true, true, true, true, false, false, false] rfl rfl (by kernel_rfl) (by decide) (fun K hK => ?_)
                  refine goes_ Try.func65 (by kernel_rfl) rfl #[.agg #[.int .i64 t.f5.f0, .int .i64 t.f5.f1, .slice A7 t.f5.f2.length c7, .slice A8 t.f5.f3.length c8]] (by rfl) rfl rfl (by simp only [List.map_toArray, List.map_cons, List.map_nil]; rfl) ?_
                  with_reducible refine (live_Values.calls KV t.f5.f0 t.f5.f1 A7 c7 t.f5.f2 A8 c8 t.f5.f3 (valuesL t.f5) _ (Kd.C_below HMa.out.ts hHeld.1) HMa.out.tsc (Kd.C_below HMa.out.tm hHeld.1) HMa.out.tmc HKV.out).mono ?_
                  rintro e w7 ⟨v7, rfl, hR7, hb7⟩
                  refine ⟨_, rfl, ?_⟩
                  obtain ⟨A7_, a7, rfl⟩ := Kd.R_slice hR7
                  have hC7 := (Kd.R_reads' hR7).2.2
                  clear hR7
                  refine hK.out _ _ ⟨below_step hHeld.1 hb7, pw_cell_below hb7 hHeld.2.1, pw_cell_below hb7 hHeld.2.2.1, pw_cell_below hb7 hHeld.2.2.2.1, pw_cell_below hb7 hHeld.2.2.2.2.1, pw_cell_below hb7 hHeld.2.2.2.2.2.1, pw_cell_below hb7 hHeld.2.2.2.2.2.2.1, pw_cell_below hb7 hHeld.2.2.2.2.2.2.2.1, pw_cell_below hb7 hHeld.2.2.2.2.2.2.2.2.1, pw_cell_below hb7 hHeld.2.2.2.2.2.2.2.2.2.1, pw_cell_below hb7 hHeld.2.2.2.2.2.2.2.2.2.2.1, pw_cell_below hb7 hHeld.2.2.2.2.2.2.2.2.2.2.2.1, pw_cell_below hb7 hHeld.2.2.2.2.2.2.2.2.2.2.2.2.1, pw_cell_below hb7 hHeld.2.2.2.2.2.2.2.2.2.2.2.2.2⟩ (fun hHeld => ?_)
                  clear hK K
                  refine norm_ (a' := ?_) ?_ ?_
                  rotate_left
                  · show Act.put _ (some 47) _ = _
                    simp only [Act.put, List.setIfInBounds_toArray, List.set_cons_zero, List.set_cons_succ, i64_w, i32_w]
                    rfl
                  refine one_ (i := 10) (N := some 50) #[true, true, true, true, true, true, true, true, true, true, true, false, false] rfl rfl (by kernel_rfl) (by decide) (fun K hK => ?_)
                  refine goes_ Try.func75 (by kernel_rfl) rfl #[.agg #[.int .i64 t.f0, .int .i64 t.f1, .int .i64 t.f2, .slice A3 t.f3.length c3, .slice A4 t.f4.length c4, .int .i64 t.f5.f0, .int .i64 t.f5.f1, .slice A7 t.f5.f2.length c7, .slice A8 t.f5.f3.length c8, .int .i64 t.f6.f0, .int .i64 t.f6.f1, .slice A11 t.f6.f2.length c11, .slice A12 t.f6.f3.length c12], .slice A7_ (valuesL t.f5).length a7, .int .i64 t.f2] (by rfl) rfl rfl (by simp only [List.map_toArray, List.map_cons, List.map_nil]; rfl) ?_
                  with_reducible refine (all_calls_b _ t A7_ a7 (valuesL t.f5) t.f2 _ HAL.out (Kd.C_below HMa.out.i hHeld.1) hC7 HVL.out).mono ?_
                  rintro e w8 ⟨rfl, hb8⟩
                  refine ⟨_, rfl, ?_⟩
                  refine hK.out _ _ ⟨below_step hHeld.1 hb8, pw_cell_below hb8 hHeld.2.1, pw_cell_below hb8 hHeld.2.2.1, pw_cell_below hb8 hHeld.2.2.2.1, pw_cell_below hb8 hHeld.2.2.2.2.1, pw_cell_below hb8 hHeld.2.2.2.2.2.1, pw_cell_below hb8 hHeld.2.2.2.2.2.2.1, pw_cell_below hb8 hHeld.2.2.2.2.2.2.2.1, pw_cell_below hb8 hHeld.2.2.2.2.2.2.2.2.1, pw_cell_below hb8 hHeld.2.2.2.2.2.2.2.2.2.1, pw_cell_below hb8 hHeld.2.2.2.2.2.2.2.2.2.2.1, pw_cell_below hb8 hHeld.2.2.2.2.2.2.2.2.2.2.2.1, pw_cell_below hb8 hHeld.2.2.2.2.2.2.2.2.2.2.2.2.1, pw_cell_below hb8 hHeld.2.2.2.2.2.2.2.2.2.2.2.2.2⟩ (fun hHeld => ?_)
                  clear hK K
                  refine norm_ (a' := ?_) ?_ ?_
                  rotate_left
                  · show Act.put _ (some 50) _ = _
                    simp only [Act.put, List.setIfInBounds_toArray, List.set_cons_zero, List.set_cons_succ, i64_w, i32_w]
                    rfl
                  refine pure_ (i := 11) (N := some 51) (v := ?_) (a' := ?_) #[true, true, true, true, true, true, true, true, true, true, true, true, false] rfl rfl (by kernel_rfl) (fun _ _ _ h => h) (Or.inl ⟨by rfl, ?_⟩) ?_ ?_
                  rotate_left
                  · intro w'
                    go_simp
                    with_reducible rfl
                  rotate_left
                  · simp only [Act.put, List.setIfInBounds_toArray, List.set_cons_zero, List.set_cons_succ, i64_w, i32_w]
                    rfl
                  refine pure_ (i := 12) (N := some 52) (v := ?_) (a' := ?_) #[true, true, true, true, true, true, true, true, true, true, true, true, true] rfl rfl (by kernel_rfl) (fun _ _ _ h => h) (Or.inl ⟨by rfl, ?_⟩) ?_ ?_
                  rotate_left
                  · intro w'
                    go_simp
                    with_reducible rfl
                  rotate_left
                  · simp only [Act.put, List.setIfInBounds_toArray, List.set_cons_zero, List.set_cons_succ, i64_w, i32_w]
                    rfl
                  refine done_ (by kernel_rfl) ?_
                  have HBn := Aside0.mk (below_step HBa.out hHeld.1)
                  clear hHeld
                  go_wp2_with fail
                  go_ret
                  exact ⟨_, rfl, ne_iff' (by decide) HR.out, HBn.out⟩
              · have hd5 : decide (t.f2 > 0) = false := decide_eq_false h5
                have hd5' : decide (0 < t.f2) = false := decide_eq_false h5
                have HTR : Aside0 (0 < t.f2 → allB t.f3 (valuesL t.f5) t.f2 = true) := ⟨fun h => absurd h h5⟩
                clear h5
                refine start_ (n := 13) (S := fun w' => Below wa.heap.size wa w' ∧ w'.cell? ⟨w.heap.size, 0, none⟩ = some (.int .i64 t.f0) ∧ w'.cell? ⟨w.heap.size, 1, none⟩ = some (.int .i64 t.f1) ∧ w'.cell? ⟨w.heap.size, 2, none⟩ = some (.int .i64 t.f2) ∧ w'.cell? ⟨w.heap.size, 3, none⟩ = some (.slice A3 t.f3.length c3) ∧ w'.cell? ⟨w.heap.size, 4, none⟩ = some (.slice A4 t.f4.length c4) ∧ w'.cell? ⟨w.heap.size, 5, none⟩ = some (.int .i64 t.f5.f0) ∧ w'.cell? ⟨w.heap.size, 6, none⟩ = some (.int .i64 t.f5.f1) ∧ w'.cell? ⟨w.heap.size, 7, none⟩ = some (.slice A7 t.f5.f2.length c7) ∧ w'.cell? ⟨w.heap.size, 8, none⟩ = some (.slice A8 t.f5.f3.length c8) ∧ w'.cell? ⟨w.heap.size, 9, none⟩ = some (.int .i64 t.f6.f0) ∧ w'.cell? ⟨w.heap.size, 10, none⟩ = some (.int .i64 t.f6.f1) ∧ w'.cell? ⟨w.heap.size, 11, none⟩ = some (.slice A11 t.f6.f2.length c11) ∧ w'.cell? ⟨w.heap.size, 12, none⟩ = some (.slice A12 t.f6.f3.length c12)) (ds := []) #[false, false, false, false, false, false, false, false, false, false, false, false, false] (by kernel_rfl) rfl rfl ⟨(below_drew (Below.refl _ _)), t0, t1, t2, t3, t4, t5, t6, t7, t8, t9, t10, t11, t12⟩ (fun hHeld => ?_)
                refine pure_ (i := 0) (N := some 40) (v := ?_) (a' := ?_) #[true, false, false, false, false, false, false, false, false, false, false, false, false] rfl rfl (by kernel_rfl) (fun _ _ _ h => h) (Or.inl ⟨by rfl, ?_⟩) ?_ ?_
                rotate_left
                · intro w'
                  go_simp
                  with_reducible rfl
                rotate_left
                · simp only [Act.put, List.setIfInBounds_toArray, List.set_cons_zero, List.set_cons_succ, i64_w, i32_w]
                  rfl
                refine take_ (i := 1) (N := some 41) (v := ?_) (a' := ?_) #[true, true, false, false, false, false, false, false, false, false, false, false, false] rfl rfl (by kernel_rfl) (fun _ _ _ h => h) (Or.inl ⟨by rfl, ?_⟩) hHeld ?_ ?_
                rotate_left
                · rintro w' ⟨s0, s1, s2, s3, s4, s5, s6, s7, s8, s9, s10, s11, s12, s13⟩
                  go_simp
                  with_reducible rfl
                rotate_left
                · simp only [Act.put, List.setIfInBounds_toArray, List.set_cons_zero, List.set_cons_succ, i64_w, i32_w]
                  rfl
                refine pure_ (i := 2) (N := some 42) (v := ?_) (a' := ?_) #[true, true, true, false, false, false, false, false, false, false, false, false, false] rfl rfl (by kernel_rfl) (fun _ _ _ h => h) (Or.inl ⟨by rfl, ?_⟩) ?_ ?_
                rotate_left
                · intro w'
                  go_simp
                  with_reducible rfl
                rotate_left
                · simp only [Act.put, List.setIfInBounds_toArray, List.set_cons_zero, List.set_cons_succ, i64_w, i32_w]
                  rfl
                refine pure_ (i := 3) (N := some 43) (v := ?_) (a' := ?_) #[true, true, true, true, false, false, false, false, false, false, false, false, false] rfl rfl (by kernel_rfl) (fun _ _ _ h => h) (Or.inl ⟨by rfl, ?_⟩) ?_ ?_
                rotate_left
                · intro w'
                  go_simp
                  with_reducible rfl
                rotate_left
                · simp only [Act.put, List.setIfInBounds_toArray, List.set_cons_zero, List.set_cons_succ, i64_w, i32_w]
                  rfl
                refine pure_ (i := 4) (N := some 44) (v := undef) (a' := ?_) #[true, true, true, true, true, false, false, false, false, false, false, false, false] rfl rfl (by kernel_rfl) (fun _ _ _ h => h) (Or.inr ⟨by rfl, rfl⟩) ?_ ?_
                rotate_left
                · simp only [Act.put, List.setIfInBounds_toArray, List.set_cons_zero, List.set_cons_succ, i64_w, i32_w]
                  rfl
                refine pure_ (i := 5) (N := some 45) (v := undef) (a' := ?_) #[true, true, true, true, true, true, false, false, false, false, false, false, false] rfl rfl (by kernel_rfl) (fun _ _ _ h => h) (Or.inr ⟨by rfl, rfl⟩) ?_ ?_
                rotate_left
                · simp only [Act.put, List.setIfInBounds_toArray, List.set_cons_zero, List.set_cons_succ, i64_w, i32_w]
                  rfl
                refine pure_ (i := 6) (N := some 46) (v := undef) (a' := ?_) #[true, true, true, true, true, true, true, false, false, false, false, false, false] rfl rfl (by kernel_rfl) (fun _ _ _ h => h) (Or.inr ⟨by rfl, rfl⟩) ?_ ?_
                rotate_left
                · simp only [Act.put, List.setIfInBounds_toArray, List.set_cons_zero, List.set_cons_succ, i64_w, i32_w]
                  rfl
                refine pure_ (i := 7) (N := some 47) (v := undef) (a' := ?_) #[true, true, true, true, true, true, true, true, false, false, false, false, false] rfl rfl (by kernel_rfl) (fun _ _ _ h => h) (Or.inr ⟨by rfl, rfl⟩) ?_ ?_
                rotate_left
                · simp only [Act.put, List.setIfInBounds_toArray, List.set_cons_zero, List.set_cons_succ, i64_w, i32_w]
                  rfl
                refine pure_ (i := 8) (N := some 48) (v := undef) (a' := ?_) #[true, true, true, true, true, true, true, true, true, false, false, false, false] rfl rfl (by kernel_rfl) (fun _ _ _ h => h) (Or.inr ⟨by rfl, rfl⟩) ?_ ?_
                rotate_left
                · simp only [Act.put, List.setIfInBounds_toArray, List.set_cons_zero, List.set_cons_succ, i64_w, i32_w]
                  rfl
                refine pure_ (i := 9) (N := some 49) (v := undef) (a' := ?_) #[true, true, true, true, true, true, true, true, true, true, false, false, false] rfl rfl (by kernel_rfl) (fun _ _ _ h => h) (Or.inr ⟨by rfl, rfl⟩) ?_ ?_
                rotate_left
                · simp only [Act.put, List.setIfInBounds_toArray, List.set_cons_zero, List.set_cons_succ, i64_w, i32_w]
                  rfl
                refine pure_ (i := 10) (N := some 50) (v := undef) (a' := ?_) #[true, true, true, true, true, true, true, true, true, true, true, false, false] rfl rfl (by kernel_rfl) (fun _ _ _ h => h) (Or.inr ⟨by rfl, rfl⟩) ?_ ?_
                rotate_left
                · simp only [Act.put, List.setIfInBounds_toArray, List.set_cons_zero, List.set_cons_succ, i64_w, i32_w]
                  rfl
                refine pure_ (i := 11) (N := some 51) (v := undef) (a' := ?_) #[true, true, true, true, true, true, true, true, true, true, true, true, false] rfl rfl (by kernel_rfl) (fun _ _ _ h => h) (Or.inr ⟨by rfl, rfl⟩) ?_ ?_
                rotate_left
                · simp only [Act.put, List.setIfInBounds_toArray, List.set_cons_zero, List.set_cons_succ, i64_w, i32_w]
                  rfl
                refine pure_ (i := 12) (N := some 52) (v := ?_) (a' := ?_) #[true, true, true, true, true, true, true, true, true, true, true, true, true] rfl rfl (by kernel_rfl) (fun _ _ _ h => h) (Or.inl ⟨by rfl, ?_⟩) ?_ ?_
                rotate_left
                · intro w'
                  go_simp
                  with_reducible rfl
                rotate_left
                · simp only [Act.put, List.setIfInBounds_toArray, List.set_cons_zero, List.set_cons_succ, i64_w, i32_w]
                  rfl
                refine done_ (by kernel_rfl) ?_
                have HBv := Aside0.mk (below_step HBa.out hHeld.1)
                have HTv := Aside0.mk (blk_below HTa.out hHeld.1)
                have HXv := Aside0.mk (blk_below HXa.out hHeld.1)
                clear hHeld t0 t1 t2 t3 t4 t5 t6 t7 t8 t9 t10 t11 t12
                clear HBa HTa HXa HMa
                first | generalize w8 = wv at HBv HTv HXv ⊢ | generalize wa.drew = wv at HBv HTv HXv ⊢ | generalize hwv : wa.drewN _ = wv at HBv HTv HXv ⊢
                have t0 := (blk_cell HTv.out 0).trans rfl
                have t1 := (blk_cell HTv.out 1).trans rfl
                have t2 := (blk_cell HTv.out 2).trans rfl
                have t3 := (blk_cell HTv.out 3).trans rfl
                have t4 := (blk_cell HTv.out 4).trans rfl
                have t5 := (blk_cell HTv.out 5).trans rfl
                have t6 := (blk_cell HTv.out 6).trans rfl
                have t7 := (blk_cell HTv.out 7).trans rfl
                have t8 := (blk_cell HTv.out 8).trans rfl
                have t9 := (blk_cell HTv.out 9).trans rfl
                have t10 := (blk_cell HTv.out 10).trans rfl
                have t11 := (blk_cell HTv.out 11).trans rfl
                have t12 := (blk_cell HTv.out 12).trans rfl
                have HU := Try.underlying95
                have HEF := Aside0.mk (Kd.F_below (Kd.C_F k31_heap HM.out.e) HBv.out)
                have HKB : Aside0 (Kd.FK k31 wv (fun k_ => k_ < w.heap.size) t.f6 [.int .i64 t.f6.f0, .int .i64 t.f6.f1, .slice A11 t.f6.f2.length c11, .slice A12 t.f6.f3.length c12]) := ⟨mkF31 t.f6 HM.out.bsc (Kd.F_below (Kd.C_F k34_heap HM.out.bs) HBv.out) HM.out.bmc (Kd.F_below (Kd.C_F k46_heap HM.out.bm) HBv.out)⟩
                go_upto_region 16 with (first | ((with_reducible refine gate_dst (N := 55) rfl ?_); refine Kd.N_lit k31 _ 31 ?hg (N' := 55) ?hd (xs := [t.f6]) (inner := [.int .i64 t.f6.f0, .int .i64 t.f6.f1, .slice A11 t.f6.f2.length c11, .slice A12 t.f6.f3.length c12]) (ok := fun k_ => k_ < w.heap.size ∨ wv.heap.size ≤ k_) (okp := fun k_ => k_ < w.heap.size) ?hr ?hp (fun _ hk => .inl hk) (.inr (Nat.le_refl _)) (Below.refl _ _) (Nat.le_refl _) (by simp) ?_; (case hd => rfl); (case hg => rfl); (case hr => first | (go_simp; done) | (go_simp; rfl)); (case hp => exact Reps.front HKB.out rfl (Reps.none _ _) rfl); intro v7 w7 ho hb hg hnew; have HO7 := Aside0.mk ho; have HB7 := Aside0.mk hb; have t4_ := pw_cell_below hb t4; clear ho hb hg hnew) | ((with_reducible refine gate_builtin (b := .append) (xs := #[.tmp 55, .tmp 57]) rfl ?_); refine Kd.N_append_rows k31 (w0 := wv) wv.heap.size rfl (.tmp 55) (.tmp 57) 95 31 (.agg #[.int .i64 0, .int .i64 0, .slice none 0 0, .slice none 0 0]) 64 rfl HU info31 rfl (by decide) (by decide) v7 [t.f6] t.f4 A4 t.f4.length c4 (fun k_ => k_ < w.heap.size ∨ wv.heap.size ≤ k_) (fun k_ => k_ < w.heap.size) rfl rfl HO7.out (Kd.F_below HEF.out HB7.out) ?ho ?hf HB7.out HB7.out.size ?hl ?_; (case ho => exact fun k hk => ⟨.inl hk, fun e => by have h1_ := Kd.N_base HO7.out k e.symm; have h2_ := HBv.out.size; omega⟩); (case hf => exact fun k hk => .inr (Nat.le_trans HB7.out.size hk)); (case hl => have h_ := HN.out.2.1; simp; omega); intro v8 w8_ ho hb hg hat; have HO8 := Aside0.mk ho; have HB8 := Aside0.mk hb; clear ho hb hg hat))
                obtain ⟨A8_, a8, e8⟩ := Kd.N_slice HO8.out
                subst e8
                have HT8 := Aside0.mk (blk_below HTv.out HB8.out)
                have HX8 := Aside0.mk (blk_below HXv.out HB8.out)
                have HW8 := Aside0.mk (below_step HBv.out HB8.out)
                have HC8 := Aside0.mk (Kd.N_reads' HO8.out).2.2
                have HS8 : Aside0 (∀ x ∈ [t.f6] ++ t.f4, bigX x ≤ 1048576) := ⟨fun x hx => by
                  rcases List.mem_append.1 hx with h | h
                  · rw [List.mem_singleton.1 h]; exact HZ.out.ba
                  · exact HZ.out.x x h⟩
                have HL8 : Aside0 (([t.f6] ++ t.f4).length ≤ 2000000) := ⟨by have := HN.out.2.1; simp; omega⟩
                clear HO7 HB7 HKB t4_ t0 t1 t2 t3 t4 t5 t6 t7 t8 t9 t10 t11 t12
                go_wp2_with fail
                refine (anyX_calls 77 #[.pointer (some ⟨w.heap.size, 0, none⟩), .pointer (some ⟨w.heap.size + 1, 0, none⟩)] (fun x => !allB t.f3 (valuesL x) (t.f3.length : Int)) (Go.Proofs.enters_of Try.func77 (by kernel_rfl) rfl) _ A8_ a8 ([t.f6] ++ t.f4) HC8.out (fun W hW x hx A2 c2 A3 c3 h2 hc2 h3 hc3 => chk1_calls W t x _ A2 c2 A3 c3 _ _ (blk_below HT8.out hW) (blk_below HX8.out hW) (Kd.C_below HM.out.i (below_step HW8.out hW)) h2 hc2 h3 hc3 (Nat.le_trans (HS8.out x hx) (by decide))) HL8.out).mono ?_
                rintro e w9 ⟨rfl, hb9⟩
                have HB9 := Aside0.mk (below_step HB8.out hb9)
                have HO9 := Aside0.mk (Kd.N_below HO8.out hb9)
                have HT9 := Aside0.mk (blk_below HT8.out hb9)
                have HW9 := Aside0.mk (below_step HW8.out hb9)
                clear hb9 HB8 HO8 HT8 HX8 HW8 HC8
                by_cases hany : ([t.f6] ++ t.f4).any (fun x => !allB t.f3 (valuesL x) (t.f3.length : Int)) = true
                · rw [hany]
                  have HR : Aside0 (¬ GoodT t.f2 t.f3 t.f4 t.f5 t.f6) := ⟨fun h => by
                    obtain ⟨x, hx, hp⟩ := List.any_eq_true.1 hany
                    rw [h.ex x hx] at hp
                    exact absurd hp (by decide)⟩
                  clear hany
                  go_wp2_with fail
                  go_ret
                  exact ⟨_, rfl, ne_iff' (by decide) HR.out, HW9.out⟩
                · have hany : ([t.f6] ++ t.f4).any (fun x => !allB t.f3 (valuesL x) (t.f3.length : Int)) = false := by simpa using hany
                  rw [hany]
                  have HEX : Aside0 (∀ x ∈ t.f6 :: t.f4, allB t.f3 (valuesL x) (t.f3.length : Int) = true) := ⟨fun x hx => by
                    have h_ := List.any_eq_false.1 hany x hx
                    simpa using h_⟩
                  clear hany
                  have t0 := (blk_cell HT9.out 0).trans rfl
                  have t1 := (blk_cell HT9.out 1).trans rfl
                  have t2 := (blk_cell HT9.out 2).trans rfl
                  have t3 := (blk_cell HT9.out 3).trans rfl
                  have t4 := (blk_cell HT9.out 4).trans rfl
                  have t5 := (blk_cell HT9.out 5).trans rfl
                  have t6 := (blk_cell HT9.out 6).trans rfl
                  have t7 := (blk_cell HT9.out 7).trans rfl
                  have t8 := (blk_cell HT9.out 8).trans rfl
                  have t9 := (blk_cell HT9.out 9).trans rfl
                  have t10 := (blk_cell HT9.out 10).trans rfl
                  have t11 := (blk_cell HT9.out 11).trans rfl
                  have t12 := (blk_cell HT9.out 12).trans rfl
                  have HKT : Aside0 (Kd.FK k31 w9 (fun k_ => k_ < w.heap.size) t.f5 [.int .i64 t.f5.f0, .int .i64 t.f5.f1, .slice A7 t.f5.f2.length c7, .slice A8 t.f5.f3.length c8]) := ⟨mkF31 t.f5 HM.out.tsc (Kd.F_below (Kd.C_F k34_heap HM.out.ts) HW9.out) HM.out.tmc (Kd.F_below (Kd.C_F k46_heap HM.out.tm) HW9.out)⟩
                  go_wp2_with (first | ((with_reducible refine gate_dst (N := 65) rfl ?_); refine Kd.N_lit k31 _ 31 ?hg (N' := 65) ?hd (xs := [t.f5]) (inner := [.int .i64 t.f5.f0, .int .i64 t.f5.f1, .slice A7 t.f5.f2.length c7, .slice A8 t.f5.f3.length c8]) (ok := fun k_ => k_ < w.heap.size ∨ w9.heap.size ≤ k_) (okp := fun k_ => k_ < w.heap.size) ?hr ?hp (fun _ hk => .inl hk) (.inr (Nat.le_refl _)) (Below.refl _ _) (Nat.le_refl _) (by simp) ?_; (case hd => rfl); (case hg => rfl); (case hr => first | (go_simp; done) | (go_simp; rfl)); (case hp => exact Reps.front HKT.out rfl (Reps.none _ _) rfl); intro v10 w10 ho hb hg hnew; obtain ⟨A10, a10, e10⟩ := Kd.N_slice ho; subst e10; have HO10 := Aside0.mk ho; have HB10 := Aside0.mk hb; clear ho hb hg hnew) | ((with_reducible refine gate_builtin (b := .append) (xs := #[.tmp 62, .tmp 65]) rfl ?_); refine Kd.N_append_rows k31 (w0 := wv) wv.heap.size rfl (.tmp 62) (.tmp 65) 95 31 (.agg #[.int .i64 0, .int .i64 0, .slice none 0 0, .slice none 0 0]) 64 rfl HU info31 rfl (by decide) (by decide) (.slice A8_ ([t.f6] ++ t.f4).length a8) ([t.f6] ++ t.f4) [t.f5] A10 1 a10 (fun k_ => k_ < w.heap.size ∨ wv.heap.size ≤ k_) (fun k_ => k_ < w.heap.size ∨ w9.heap.size ≤ k_) rfl rfl (Kd.N_below HO9.out HB10.out) (Kd.N_F HO10.out) ?ho ?hf (HB9.out.trans (below_cut HB10.out HB9.out.size)) (Nat.le_trans HB9.out.size HB10.out.size) ?hl ?_; (case ho => exact fun k hk => ⟨hk.imp id (fun h => Nat.le_trans HB9.out.size h), fun e => by have h1_ := Kd.N_base HO9.out k e.symm; have h2_ := HBv.out.size; have h3_ := Kd.N_lt HO9.out k e.symm; omega⟩); (case hf => exact fun k hk => .inr (Nat.le_trans HB9.out.size (Nat.le_trans HB10.out.size hk))); (case hl => have h_ := HN.out.2.1; simp; omega); intro v11 w11 ho hb hg hat; obtain ⟨A11_, a11, e11⟩ := Kd.N_slice ho; subst e11; have HO11 := Aside0.mk ho; have HB11 := Aside0.mk hb; clear ho hb hg hat))
                  have HW11 := Aside0.mk (HBv.out.trans (below_cut HB11.out HBv.out.size))
                  have hs11 : ∀ x ∈ [t.f6] ++ t.f4 ++ [t.f5], x.f3.length ≤ 2000000 := fun x hx => by
                    have h1_ : bigX x ≤ 1048576 := by
                      rcases List.mem_append.1 hx with h | h
                      · exact HS8.out x h
                      · rw [List.mem_singleton.1 h]; exact HZ.out.tu
                    have h2_ := makes_len x.f3
                    have h3_ : (x.f3.map (fun m => m.f3.length + 2)).sum ≤ bigX x := Nat.le_add_left _ _
                    exact Nat.le_trans (by omega : x.f3.length ≤ 2 * x.f3.length) (Nat.le_trans h2_ (Nat.le_trans h3_ (Nat.le_trans h1_ (by decide))))
                  have hcall := anyX_calls 78 #[] largeB (Go.Proofs.enters_of Try.func78 (by kernel_rfl) rfl) _ A11_ a11 ([t.f6] ++ t.f4 ++ [t.f5]) (Kd.N_reads' HO11.out).2.2 (fun W hW x hx A2 c2 A3 c3 h2 hc2 h3 hc3 => large_calls W x A2 c2 A3 c3 h3 (hs11 x hx)) (by have h_ := HN.out.2.1; simp; omega)
                  rw [show ([t.f6] ++ t.f4 ++ [t.f5]).length = t.f4.length + 1 + 1 from by simp] at hcall
                  clear hs11
                  refine hcall.mono ?_
                  clear hcall
                  rintro e w12 ⟨rfl, hb12⟩
                  have HB12 := Aside0.mk (below_step HW11.out hb12)
                  clear hb12 HO11 HO9 t0 t1 t2 t3 t4 t5 t6 t7 t8 t9 t10 t11 t12
                  by_cases hla : ([t.f6] ++ t.f4 ++ [t.f5]).any largeB = true
                  · rw [hla]
                    have HR : Aside0 (¬ GoodT t.f2 t.f3 t.f4 t.f5 t.f6) := ⟨fun h => by
                      obtain ⟨x, hx, hp⟩ := List.any_eq_true.1 hla
                      rw [h.la x hx] at hp
                      exact absurd hp (by decide)⟩
                    clear hla
                    go_wp2_with fail
                    go_ret
                    exact ⟨_, rfl, ne_iff' (by decide) HR.out, HB12.out⟩
                  · have hla : ([t.f6] ++ t.f4 ++ [t.f5]).any largeB = false := by simpa using hla
                    rw [hla]
                    have HR : Aside0 (GoodT t.f2 t.f3 t.f4 t.f5 t.f6) := ⟨⟨HN.out.1, HN.out.2.1, HN.out.2.2.1, HN.out.2.2.2, fun i hi => HA.out i hi, HTR.out, HEX.out, fun x hx => by
                      have h_ := List.any_eq_false.1 hla x hx
                      simpa using h_⟩⟩
                    clear hla
                    go_wp2_with fail
                    go_ret
                    exact ⟨_, rfl, eq_iff' HR.out, HB12.out⟩
end Go.Proofs.Ytchcbncelckgeaa.Lv
