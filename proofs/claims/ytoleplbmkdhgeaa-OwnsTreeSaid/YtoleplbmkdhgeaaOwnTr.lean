/- The law function OwnsTree walked. -/
import Derived.Test.YtoleplbmkdhgeaaOwnSz
set_option linter.unusedVariables false
set_option linter.unusedSimpArgs false
namespace Go.Proofs.Ytoleplbmkdhgeaa.Own
open Go.RowKit Go.Proofs.YtoleplbmkdhgeaaW.PrintWords Go.Proofs.YtoleplbmkdhgeaaW.PrintLast Go.Proofs.YtoleplbmkdhgeaaW.PrintMore Go.Proofs.Ytoleplbmkdhgeaa.PN Go.Proofs.Ytoleplbmkdhgeaa.Hnd Go.Lib Go.Proofs.Ytoleplbmkdhgeaa.Chk

/-- How many steps are left up the tree, at most. -/
def upN (has : List (List Int)) (roots : List Int) (k : Int) : Nat := if k < 0 then 0 else if k ∈ rpoL has roots then (posF (placeL has roots) k).toNat + 1 else 1
theorem upN_le {has : List (List Int)} {roots : List Int} (G : Gr has roots) {k : Int} (h1 : k < (has.length : Int)) : upN has roots k ≤ has.length := by
  unfold upN
  split
  · omega
  · split
    · rename_i h
      have := ((rp_ok G).pos_bd h)
      have := rpo_le G
      omega
    · omega
theorem upN_step {has : List (List Int)} {roots : List Int} {D : List Int} (G : Gr has roots) (hD : DoneG has roots D) {k : Int} (h0 : 0 ≤ k) : upN has roots (fnD D k) + 1 ≤ upN has roots k := by
  have R := rp_ok G
  by_cases h : k ∈ rpoL has roots
  · obtain ⟨q1, q2⟩ := ok_dm R hD.wf h (hD.told k h)
    have e1 : upN has roots k = (posF (placeL has roots) k).toNat + 1 := by unfold upN; rw [if_neg (by omega), if_pos h]
    rw [e1]
    rcases q1 with q | q
    · rw [q]; unfold upN; rw [if_pos (by decide)]; omega
    · have h3 := (rpo_in G _ q.1).1
      have h4 := q2 (by omega)
      have h5 := (R.pos_bd q.1).1
      have e2 : upN has roots (fnD D k) = (posF (placeL has roots) (fnD D k)).toNat + 1 := by unfold upN; rw [if_neg (by omega), if_pos q.1]
      rw [e2]
      omega
  · rw [hD.out k h]
    unfold upN
    rw [if_pos (by decide), if_neg (by omega), if_neg h]
    omega
set_option maxHeartbeats 32000000 in
set_option maxRecDepth 100000 in
theorem tree_calls (w : World) (has : List (List Int)) (roots : List Int) (AH : Option Addr) (cH : Nat) (AR : Option Addr) (cR : Nat) (hH : Kd.C (Kd.slice 3 (Kd.int .i64)) w AH has.length has) (hcH : has.length ≤ cH) (hR : Kd.C (Kd.int .i64) w AR roots.length roots) (hcR : roots.length ≤ cR) :
    Calls Try.prog 7 #[.agg #[.slice AH has.length cH, .slice AR roots.length cR]] w fun e w' => e = .returned (.bool true) ∧ Below w.heap.size w w' := by
  obtain ⟨o1, ho1⟩ : ∃ ob, ob = Obj.cells #[.slice AH has.length cH, .slice AR roots.length cR] 25 := ⟨_, rfl⟩
  have hal := below_alloc (Below.refl w.heap.size w) o1
  have HB := Aside0.mk hal
  have HC : Aside0 ((w.alloc o1).heap[w.heap.size]? = some (.cells #[.slice AH has.length cH, .slice AR roots.length cR] 25 (0, 0))) := ⟨by rw [ho1]; exact blk_new w _⟩
  have HH := Aside0.mk (And.intro hH hcH)
  have HR := Aside0.mk (And.intro hR hcR)
  obtain ⟨ck, hck⟩ : ∃ ck, ck = checkE has roots := ⟨_, rfl⟩
  have HCK := Aside0.mk hck
  clear hal hH hcH hR hcR hck
  go_enter Try.func7, Try.ntmps7
  go_wp2_with fail
  rw [← ho1]
  clear ho1
  generalize w.alloc o1 = w1 at HB HC ⊢
  refine (owned_calls _).mono ?_
  rintro e w2 ⟨rfl, hb2⟩
  have HB2 := Aside0.mk (below_step HB.out hb2)
  have HC2 := Aside0.mk (blk_below HC.out hb2)
  clear hb2 HB HC
  have y0 := (blk_cell HC2.out 0).trans rfl
  have y1 := (blk_cell HC2.out 1).trans rfl
  go_wp2_with fail
  refine (Doms_calls w2 has roots AH cH AR cR (Kd.C_below HH.out.1 HB2.out) HH.out.2 (Kd.C_below HR.out.1 HB2.out) HR.out.2).mono ?_
  rintro e w3 ⟨v, rfl, hbad, hok, hb3⟩
  rw [← HCK.out] at hbad hok ⊢
  have HB3 := Aside0.mk (below_step HB2.out hb3)
  have HC3 := Aside0.mk (blk_below HC2.out hb3)
  clear hb3 HB2 HC2 y0 y1
  have y0 := (blk_cell HC3.out 0).trans rfl
  have y1 := (blk_cell HC3.out 1).trans rfl
  have HBAD := Aside0.mk hbad
  have HOK := Aside0.mk hok
  clear hbad hok
  go_wp2_with fail
  refine (Sizes_calls w3 has roots AH cH AR cR (Kd.C_below HH.out.1 HB3.out) HH.out.2 (Kd.C_below HR.out.1 HB3.out) HR.out.2).mono ?_
  rintro e w4 ⟨v2, rfl, hbad2, hok2, hb4⟩
  rw [← HCK.out] at hbad2 hok2 ⊢
  have HB4 := Aside0.mk (below_step HB3.out hb4)
  have HDN := Aside0.mk hb4
  clear hb4 HC3 y0 y1
  by_cases h0 : ck = 0
  case neg =>
    have hed : (ck != 0) = true := bne_iff_ne.mpr h0
    have hv := HBAD.out h0
    have hv2 := hbad2 h0
    subst hv
    subst hv2
    clear hok2 hbad2 HBAD HOK h0
    go_wp2_with fail
    refine (owned_calls _).mono ?_
    rintro e w5 ⟨rfl, hb5⟩
    have HB5 := Aside0.mk (below_step HB4.out hb5)
    have heq : (ck == ck) = true := by simp
    have hw0 : wrap64 ((0 : Int) + 0) = 0 := by simp [wrap64]
    clear hb5
    go_wp2_with fail
    go_ret
    exact ⟨rfl, HB5.out⟩
  have hed : (ck != 0) = false := by rw [h0]; decide
  have H0 := Aside0.mk h0
  obtain ⟨D, A, c, rfl, hr, hl, hd⟩ := HOK.out h0
  obtain ⟨D2, b, hd2, hl2, rfl, hbk⟩ := hok2 h0
  obtain ⟨g1, g2, g3, g4⟩ := gr_of (HCK.out.symm.trans h0)
  have eD : D2 = D := done_list g1 hd2 hd (hl2.trans hl.symm)
  subst eD
  have HCD : Aside0 (D2.length ≤ c ∧ Kd.C (Kd.int .i64) w4 A D2.length D2) := ⟨(Kd.R_reads' hr).2.1, Kd.C_below (Kd.R_reads' hr).2.2 HDN.out⟩
  have HL := Aside0.mk hl
  have HD := Aside0.mk hd
  have HG := Aside0.mk g1
  have HN := Aside0.mk g2
  have HBK := Aside0.mk hbk
  have HSZ := Aside0.mk (fun (x : Int) (q0 : 0 ≤ x) (q1 : x < (has.length : Int)) => size_sum g1 hd q0 q1)
  have HSL : Aside0 ((sizeL has roots D2).length = has.length) := ⟨preZ_len _ _ _ _⟩
  have hmk : ∀ W : World, (Instr.makeSlice 23 (.int .i64 (D2.length : Int)) (.int .i64 (D2.length : Int))).run Try.prog W = .ok (.slice (some ⟨W.heap.size, 0, none⟩) D2.length D2.length) (W.alloc (.cells (madeCells #[.int .i64 0] D2.length) 3)) := by
    intro W
    exact run_make_row' 23 3 (.int .i64 0) 8 Try.underlying23 (by kernel_rfl) rfl .i64 .i64 D2.length (by omega) (by omega) W
  clear hr hl hd hd2 hl2 g1 g2 g3 g4 hbk hbad2 hok2 h0 HBAD HOK HDN
  go_upto_region 8 with fail
  -- LOOPS
  rw [HL.out]
  have H7 : Aside0 ((w4.alloc (Obj.cells (madeCells #[Value.int .i64 0] has.length) 3)).heap[w4.heap.size]? = some (.cells (cellsO (sumTo D2 (sizeL has roots D2) has.length 0)).toArray 3 (0, 0))) := ⟨by rw [blk_new, made_O]; rfl⟩
  have HB5 : Aside0 (Below w4.heap.size w4 (w4.alloc (Obj.cells (madeCells #[Value.int .i64 0] has.length) 3))) := ⟨below_alloc (Below.refl _ _) _⟩
  have HBB : Aside0 (b < w4.heap.size) := ⟨blk_lt HBK.out⟩
  clear hmk
  generalize w4.alloc (Obj.cells (madeCells #[Value.int .i64 0] has.length) 3) = w5 at H7 HB5 ⊢
  obtain ⟨b7, hb7⟩ : ∃ b7, b7 = w4.heap.size := ⟨_, rfl⟩
  rw [← hb7] at H7 HB5 HBB ⊢
  have H47 := Aside0.mk hb7
  clear hb7
  go_upto_region 9 with fail
  go_loopg [51] has.length (fun kq v51 W => ∃ i : Nat, v51 = .int .i64 (i : Int) ∧ Aside0 (i ≤ has.length ∧ kq = has.length - i) ∧ Aside0 (W.heap[b7]? = some (.cells (cellsO (sumTo D2 (sizeL has roots D2) has.length i)).toArray 3 (0, 0))) ∧ Aside0 (Below b7 w4 W))
  case atStart => exact ⟨0, rfl, ⟨Nat.zero_le _, by omega⟩, H7, HB5⟩
  case round =>
    clear H7 HB5
    obtain ⟨i, rfl, HIQ, HS, HBi⟩ := hrel
    by_cases hlt : i < has.length
    · have hi0 : (0 : Int) ≤ (i : Int) := by omega
      have hi1 : (i : Int) < (has.length : Int) := by omega
      have hdec : decide ((i : Int) < (has.length : Int)) = true := decide_eq_true hi1
      have hdec2 : decide (i < has.length) = true := decide_eq_true hlt
      have HLT := Aside0.mk hlt
      have HIW : Aside0 (wrap64 ((i : Int) + 1) = ((i + 1 : Nat) : Int)) := ⟨by have := HN.out; unfold wrap64; omega⟩
      have HCi : Aside0 (Kd.C (Kd.int .i64) wr A D2.length D2) := ⟨Kd.C_below HCD.out.2 (by have h_ := HBi.out; rw [H47.out] at h_; exact h_)⟩
      obtain ⟨ad, eA, hx⟩ := at_doms HCi.out hi0 (by rw [HL.out]; exact hi1)
      rw [Int.toNat_natCast] at hx
      have HSS := Aside0.mk (sumTo_succ D2 (sizeL has roots D2) has.length i)
      have HDL := Aside0.mk (dm_lt HG.out HD.out (i : Int))
      have HST : Aside0 (0 ≤ fnD D2 (i : Int) → fnD D2 (fnD D2 (i : Int)) ≠ -2 ∧ fnD D2 (i : Int) ≠ (i : Int)) := ⟨fun q => by
        have hir : (i : Int) ∈ rpoL has roots := Classical.byContradiction fun q2 => by have := HD.out.out _ q2; omega
        obtain ⟨q1, q2⟩ := ok_dm (rp_ok HG.out) HD.out.wf hir (HD.out.told _ hir)
        refine ⟨(q1.resolve_left (by omega)).2, fun q3 => ?_⟩
        have := q2 (by omega)
        rw [q3] at this
        omega⟩
      clear hlt
      by_cases hd : fnD D2 (i : Int) ≥ 0
      · have d3 : decide (fnD D2 (i : Int) ≥ 0) = true := decide_eq_true hd
        have d3b : decide (0 ≤ fnD D2 (i : Int)) = true := d3
        obtain ⟨st1, st2⟩ := HST.out hd
        have e0 : (0 : Int) ≤ fnD D2 (i : Int) := hd
        have e1 : fnD D2 (i : Int) < (has.length : Int) := HDL.out
        obtain ⟨ad2, eA2, hx2⟩ := at_doms HCi.out e0 (by rw [HL.out]; exact e1)
        have eA3 : ad2 = ad := Option.some.inj (eA2.symm.trans eA)
        rw [eA3] at hx2
        clear eA2 eA3
        have d4 : (fnD D2 (fnD D2 (i : Int)) == -2) = false := beq_eq_false_iff_ne.mpr st1
        have d5 : (fnD D2 (i : Int) == (i : Int)) = false := beq_eq_false_iff_ne.mpr st2
        have z7 : wr.cell? ⟨b7, (fnD D2 (i : Int)).toNat, none⟩ = some (.int .i64 (atO (sumTo D2 (sizeL has roots D2) has.length i) (fnD D2 (i : Int)))) := zblk_at HS.out (by rw [sumTo_len]; omega)
        have zb : wr.cell? ⟨b, i, none⟩ = some (.int .i64 (atO (sizeL has roots D2) (i : Int))) := by
          have h_ := zblk_at (blk_deeper HBK.out HBi.out HBB.out) (i := i) (by rw [HSL.out]; omega)
          unfold atO
          rw [Int.toNat_natCast]
          exact h_
        have hset := zblk_set HS.out (fnD D2 (i : Int)).toNat (wrap64 (atO (sumTo D2 (sizeL has roots D2) has.length i) (fnD D2 (i : Int)) + atO (sizeL has roots D2) (i : Int)))
        rw [show (sumTo D2 (sizeL has roots D2) has.length i).set (fnD D2 (i : Int)).toNat (wrap64 (atO (sumTo D2 (sizeL has roots D2) has.length i) (fnD D2 (i : Int)) + atO (sizeL has roots D2) (i : Int))) = sumTo D2 (sizeL has roots D2) has.length (i + 1) from by rw [HSS.out]; unfold stepS; rw [if_pos e0]] at hset
        have fz : wr.drew.frozen? ⟨b7, (fnD D2 (i : Int)).toNat, none⟩ = false := blk_frozen (w := wr.drew) HS.out _
        have HSET := Aside0.mk hset
        have HBE : Aside0 (Below b7 w4 (wr.setCell ⟨b7, (fnD D2 (i : Int)).toNat, none⟩ (.int .i64 (wrap64 (atO (sumTo D2 (sizeL has roots D2) has.length i) (fnD D2 (i : Int)) + atO (sizeL has roots D2) (i : Int)))))) := ⟨HBi.out.setCell (p := ⟨b7, (fnD D2 (i : Int)).toNat, none⟩) (Nat.le_refl _) _⟩
        clear hset
        subst eA
        generalize atO (sumTo D2 (sizeL has roots D2) has.length i) (fnD D2 (i : Int)) = p at z7 HSET HBE
        generalize atO (sizeL has roots D2) (i : Int) = r at zb HSET HBE
        generalize hdd : fnD D2 (i : Int) = d at *
        go_upto_region 14 with fail
        have kd : wr.drew.cell? ⟨b7, d.toNat, none⟩ = some (.int .i64 p) := z7
        refine start_ (n := 11) (S := fun w' => w'.cell? ⟨b7, d.toNat, none⟩ = some (.int .i64 p) ∧ w'.cell? ⟨b, i, none⟩ = some (.int .i64 r)) (ds := [10]) #[false, false, false, false, false, false, false, false, false, false, false] (by kernel_rfl) rfl rfl ⟨z7, zb⟩ (fun hHeld => ?_)
        refine pure_ (i := 0) (N := some 68) (v := ?_) (a' := ?_) #[true, false, false, false, false, false, false, false, false, false, false] rfl rfl (by kernel_rfl) (fun _ _ _ h => h) (Or.inl ⟨by rfl, ?_⟩) ?_ ?_
        rotate_left
        · intro w'
          go_simp
          with_reducible rfl
        rotate_left
        · simp only [Act.put, List.setIfInBounds_toArray, List.set_cons_zero, List.set_cons_succ, i64_w, i32_w]
          rfl
        refine pure_ (i := 1) (N := some 69) (v := ?_) (a' := ?_) #[true, true, false, false, false, false, false, false, false, false, false] rfl rfl (by kernel_rfl) (fun _ _ _ h => h) (Or.inl ⟨by rfl, ?_⟩) ?_ ?_
        rotate_left
        · intro w'
          go_simp
          with_reducible rfl
        rotate_left
        · simp only [Act.put, List.setIfInBounds_toArray, List.set_cons_zero, List.set_cons_succ, i64_w, i32_w]
          rfl
        refine pure_ (i := 2) (N := some 70) (v := ?_) (a' := ?_) #[true, true, true, false, false, false, false, false, false, false, false] rfl rfl (by kernel_rfl) (fun _ _ _ h => h) (Or.inl ⟨by rfl, ?_⟩) ?_ ?_
        rotate_left
        · intro w'
          go_simp
          with_reducible rfl
        rotate_left
        · simp only [Act.put, List.setIfInBounds_toArray, List.set_cons_zero, List.set_cons_succ, i64_w, i32_w]
          rfl
        refine pure_ (i := 4) (N := some 72) (v := ?_) (a' := ?_) #[true, true, true, false, true, false, false, false, false, false, false] rfl rfl (by kernel_rfl) (fun _ _ _ h => h) (Or.inl ⟨by rfl, ?_⟩) ?_ ?_
        rotate_left
        · intro w'
          go_simp
          with_reducible rfl
        rotate_left
        · simp only [Act.put, List.setIfInBounds_toArray, List.set_cons_zero, List.set_cons_succ, i64_w, i32_w]
          rfl
        refine pure_ (i := 5) (N := some 73) (v := ?_) (a' := ?_) #[true, true, true, false, true, true, false, false, false, false, false] rfl rfl (by kernel_rfl) (fun _ _ _ h => h) (Or.inl ⟨by rfl, ?_⟩) ?_ ?_
        rotate_left
        · intro w'
          go_simp
          with_reducible rfl
        rotate_left
        · simp only [Act.put, List.setIfInBounds_toArray, List.set_cons_zero, List.set_cons_succ, i64_w, i32_w]
          rfl
        refine pure_ (i := 6) (N := some 74) (v := ?_) (a' := ?_) #[true, true, true, false, true, true, true, false, false, false, false] rfl rfl (by kernel_rfl) (fun _ _ _ h => h) (Or.inl ⟨by rfl, ?_⟩) ?_ ?_
        rotate_left
        · intro w'
          go_simp
          with_reducible rfl
        rotate_left
        · simp only [Act.put, List.setIfInBounds_toArray, List.set_cons_zero, List.set_cons_succ, i64_w, i32_w]
          rfl
        refine take_ (i := 3) (N := some 71) (v := ?_) (a' := ?_) #[true, true, true, true, true, true, true, false, false, false, false] rfl rfl (by kernel_rfl) (fun _ _ _ h => h) (Or.inl ⟨by rfl, ?_⟩) hHeld ?_ ?_
        rotate_left
        · rintro w' ⟨s0, s1⟩
          go_simp
          with_reducible rfl
        rotate_left
        · simp only [Act.put, List.setIfInBounds_toArray, List.set_cons_zero, List.set_cons_succ, i64_w, i32_w]
          rfl
        refine take_ (i := 7) (N := some 75) (v := ?_) (a' := ?_) #[true, true, true, true, true, true, true, true, false, false, false] rfl rfl (by kernel_rfl) (fun _ _ _ h => h) (Or.inl ⟨by rfl, ?_⟩) hHeld ?_ ?_
        rotate_left
        · rintro w' ⟨s0, s1⟩
          go_simp
          with_reducible rfl
        rotate_left
        · simp only [Act.put, List.setIfInBounds_toArray, List.set_cons_zero, List.set_cons_succ, i64_w, i32_w]
          rfl
        refine pure_ (i := 8) (N := some 76) (v := ?_) (a' := ?_) #[true, true, true, true, true, true, true, true, true, false, false] rfl rfl (by kernel_rfl) (fun _ _ _ h => h) (Or.inl ⟨by rfl, ?_⟩) ?_ ?_
        rotate_left
        · intro w'
          go_simp
          with_reducible rfl
        rotate_left
        · simp only [Act.put, List.setIfInBounds_toArray, List.set_cons_zero, List.set_cons_succ, i64_w, i32_w]
          rfl
        refine pure_ (i := 9) (N := some 77) (v := ?_) (a' := ?_) #[true, true, true, true, true, true, true, true, true, true, false] rfl rfl (by kernel_rfl) (fun _ _ _ h => h) (Or.inl ⟨by rfl, ?_⟩) ?_ ?_
        rotate_left
        · intro w'
          go_simp
          with_reducible rfl
        rotate_left
        · simp only [Act.put, List.setIfInBounds_toArray, List.set_cons_zero, List.set_cons_succ, i64_w, i32_w]
          rfl
        refine last_ (i := 10) (N := none) #[true, true, true, true, true, true, true, true, true, true, true] rfl rfl (by kernel_rfl) (by decide) (fun K hK => ?_)
        refine skip_ (w1 := ?_) (by rfl) rfl ?_ ?_
        rotate_left
        · go_simp
          rfl
        refine hK.out _ _ ?_
        clear hK K
        refine done_ (by kernel_rfl) ?_
        clear z7 zb kd fz hx hx2 d3 d3b d4 d5
        have HS2 : Aside0 ((wr.setCell ⟨b7, d.toNat, none⟩ (.int .i64 (wrap64 (p + r)))).drew.heap[b7]? = some (.cells (cellsO (sumTo D2 (sizeL has roots D2) has.length (i + 1))).toArray 3 (0, 0))) := ⟨HSET.out⟩
        have HB9 : Aside0 (Below b7 w4 (wr.setCell ⟨b7, d.toNat, none⟩ (.int .i64 (wrap64 (p + r)))).drew) := ⟨below_drew HBE.out⟩
        clear HSET HBE HS HBi HCi
        generalize (wr.setCell ⟨b7, d.toNat, none⟩ (.int .i64 (wrap64 (p + r)))).drew = w8 at HS2 HB9 ⊢
        go_upto_region 17 with fail
        go_loopg [10, 11] (upN has roots (i : Int)) (fun kq v10 v11 W => ∃ (t : Nat) (k : Int), v10 = .int .i64 (t : Int) ∧ v11 = .int .i64 k ∧ Aside0 (t + upN has roots k ≤ has.length ∧ k < (has.length : Int) ∧ upN has roots k ≤ kq) ∧ Aside0 (W.heap[b7]? = some (.cells (cellsO (sumTo D2 (sizeL has roots D2) has.length (i + 1))).toArray 3 (0, 0))) ∧ Aside0 (Below b7 w4 W))
        case atStart => exact ⟨0, (i : Int), rfl, rfl, ⟨by have := upN_le HG.out hi1; omega, hi1, Nat.le_refl _⟩, HS2, HB9⟩
        case round =>
          clear HS2 HB9
          obtain ⟨t, k, rfl, rfl, HKQ, HSr, HBr⟩ := hrel
          by_cases hk : k ≥ 0
          · have k3 : decide (k ≥ 0) = true := decide_eq_true hk
            have k3b : decide (0 ≤ k) = true := k3
            have k0 : (0 : Int) ≤ k := hk
            have k1 : k < (has.length : Int) := HKQ.out.2.1
            have k4 : decide ((t : Int) ≤ (has.length : Int)) = true := decide_eq_true (by have := HKQ.out.1; omega)
            have k4b : decide (t ≤ has.length) = true := decide_eq_true (by have := HKQ.out.1; omega)
            have HTW : Aside0 (wrap64 ((t : Int) + 1) = ((t + 1 : Nat) : Int)) := ⟨by have := HKQ.out.1; have := HN.out; unfold wrap64; omega⟩
            obtain ⟨ad3, eA3, hx3⟩ := at_doms (Kd.C_below HCD.out.2 (by have h_ := HBr.out; rw [H47.out] at h_; exact h_)) k0 (by rw [HL.out]; exact k1)
            have eA4 : ad3 = ad := Option.some.inj eA3.symm
            rw [eA4] at hx3
            clear eA3 eA4
            have HUS := Aside0.mk (upN_step HG.out HD.out k0)
            have HDK := Aside0.mk (dm_lt HG.out HD.out k)
            clear hk
            go_wp2_with fail
            go_roundg (gk - 1)
            case measure => have := HUS.out; have := HKQ.out.2.2; omega
            case rel => exact ⟨t + 1, fnD D2 k, by first | rfl | rw [HTW.out], rfl, ⟨by have := HUS.out; have := HKQ.out.1; omega, HDK.out, by have := HUS.out; have := HKQ.out.2.2; omega⟩, HSr, HBr⟩
          · have k3 : decide (k ≥ 0) = false := decide_eq_false hk
            have k3b : decide (0 ≤ k) = false := k3
            have k5 : decide ((t : Int) > (has.length : Int)) = false := decide_eq_false (by have := HKQ.out.1; omega)
            have k5b : decide ((has.length : Int) < (t : Int)) = false := k5
            have k5c : decide (has.length < t) = false := decide_eq_false (by have := HKQ.out.1; omega)
            clear hk
            go_wp2_with fail
            go_roundg (has.length - (i + 1))
            case measure => have := HIQ.out; have := HLT.out; omega
            case rel => exact ⟨i + 1, by first | rfl | rw [HIW.out], ⟨by have := HLT.out; omega, rfl⟩, HSr, HBr⟩
      · have d3 : decide (fnD D2 (i : Int) ≥ 0) = false := decide_eq_false hd
        have d3b : decide (0 ≤ fnD D2 (i : Int)) = false := d3
        have HS2 : Aside0 (wr.heap[b7]? = some (.cells (cellsO (sumTo D2 (sizeL has roots D2) has.length (i + 1))).toArray 3 (0, 0))) := ⟨by rw [HSS.out]; unfold stepS; rw [if_neg hd]; exact HS.out⟩
        have HB9 := HBi
        subst eA
        clear hd
        go_upto_region 15 with fail
        clear d3 d3b hx HS HBi HCi
        generalize wr = w8 at HS2 HB9 ⊢
        go_upto_region 17 with fail
        go_loopg [10, 11] (upN has roots (i : Int)) (fun kq v10 v11 W => ∃ (t : Nat) (k : Int), v10 = .int .i64 (t : Int) ∧ v11 = .int .i64 k ∧ Aside0 (t + upN has roots k ≤ has.length ∧ k < (has.length : Int) ∧ upN has roots k ≤ kq) ∧ Aside0 (W.heap[b7]? = some (.cells (cellsO (sumTo D2 (sizeL has roots D2) has.length (i + 1))).toArray 3 (0, 0))) ∧ Aside0 (Below b7 w4 W))
        case atStart => exact ⟨0, (i : Int), rfl, rfl, ⟨by have := upN_le HG.out hi1; omega, hi1, Nat.le_refl _⟩, HS2, HB9⟩
        case round =>
          clear HS2 HB9
          obtain ⟨t, k, rfl, rfl, HKQ, HSr, HBr⟩ := hrel
          by_cases hk : k ≥ 0
          · have k3 : decide (k ≥ 0) = true := decide_eq_true hk
            have k3b : decide (0 ≤ k) = true := k3
            have k0 : (0 : Int) ≤ k := hk
            have k1 : k < (has.length : Int) := HKQ.out.2.1
            have k4 : decide ((t : Int) ≤ (has.length : Int)) = true := decide_eq_true (by have := HKQ.out.1; omega)
            have k4b : decide (t ≤ has.length) = true := decide_eq_true (by have := HKQ.out.1; omega)
            have HTW : Aside0 (wrap64 ((t : Int) + 1) = ((t + 1 : Nat) : Int)) := ⟨by have := HKQ.out.1; have := HN.out; unfold wrap64; omega⟩
            obtain ⟨ad3, eA3, hx3⟩ := at_doms (Kd.C_below HCD.out.2 (by have h_ := HBr.out; rw [H47.out] at h_; exact h_)) k0 (by rw [HL.out]; exact k1)
            have eA4 : ad3 = ad := Option.some.inj eA3.symm
            rw [eA4] at hx3
            clear eA3 eA4
            have HUS := Aside0.mk (upN_step HG.out HD.out k0)
            have HDK := Aside0.mk (dm_lt HG.out HD.out k)
            clear hk
            go_wp2_with fail
            go_roundg (gk - 1)
            case measure => have := HUS.out; have := HKQ.out.2.2; omega
            case rel => exact ⟨t + 1, fnD D2 k, by first | rfl | rw [HTW.out], rfl, ⟨by have := HUS.out; have := HKQ.out.1; omega, HDK.out, by have := HUS.out; have := HKQ.out.2.2; omega⟩, HSr, HBr⟩
          · have k3 : decide (k ≥ 0) = false := decide_eq_false hk
            have k3b : decide (0 ≤ k) = false := k3
            have k5 : decide ((t : Int) > (has.length : Int)) = false := decide_eq_false (by have := HKQ.out.1; omega)
            have k5b : decide ((has.length : Int) < (t : Int)) = false := k5
            have k5c : decide (has.length < t) = false := decide_eq_false (by have := HKQ.out.1; omega)
            clear hk
            go_wp2_with fail
            go_roundg (has.length - (i + 1))
            case measure => have := HIQ.out; have := HLT.out; omega
            case rel => exact ⟨i + 1, by first | rfl | rw [HIW.out], ⟨by have := HLT.out; omega, rfl⟩, HSr, HBr⟩
    · have e_ : i = has.length := by have := HIQ.out; omega
      subst e_
      have hdec : decide ((has.length : Int) < (has.length : Int)) = false := decide_eq_false (by omega)
      have hdec2 : decide (has.length < has.length) = false := decide_eq_false hlt
      have HS9 := HS
      have HB9 := HBi
      clear hlt HIQ HS HBi
      go_upto_region 24 with fail
      obtain ⟨w6, hw6⟩ : ∃ w6, w6 = wr := ⟨wr, rfl⟩
      rw [← hw6] at HS9 HB9
      have HB6 := HB9
      go_loopg [100] has.length (fun kq v100 W => ∃ i : Nat, v100 = .int .i64 (i : Int) ∧ Aside0 (i ≤ has.length ∧ kq = has.length - i) ∧ Aside0 (Below w6.heap.size w6 W))
      case atStart => exact ⟨0, rfl, ⟨Nat.zero_le _, by omega⟩, by rw [hw6]; exact ⟨Below.refl _ _⟩⟩
      case round =>
        clear hw6
        obtain ⟨i, rfl, HIQ, HBi⟩ := hrel
        have HBT : Aside0 (Below b7 w4 wr) := ⟨HB9.out.trans (HBi.out.mono (Nat.le_of_lt (blk_lt HS9.out)))⟩
        by_cases hlt : i < has.length
        · have hi0 : (0 : Int) ≤ (i : Int) := by omega
          have hi1 : (i : Int) < (has.length : Int) := by omega
          have hdec : decide ((i : Int) < (has.length : Int)) = true := decide_eq_true hi1
          have hdec2 : decide (i < has.length) = true := decide_eq_true hlt
          have HLT := Aside0.mk hlt
          have HIW : Aside0 (wrap64 ((i : Int) + 1) = ((i + 1 : Nat) : Int)) := ⟨by have := HN.out; unfold wrap64; omega⟩
          obtain ⟨ad, eA, hx⟩ := at_doms (Kd.C_below HCD.out.2 (by have h_ := HBT.out; rw [H47.out] at h_; exact h_)) hi0 (by rw [HL.out]; exact hi1)
          rw [Int.toNat_natCast] at hx
          have z7 : wr.cell? ⟨b7, i, none⟩ = some (.int .i64 (atO (sumTo D2 (sizeL has roots D2) has.length has.length) (i : Int))) := by
            have h_ := zblk_at (blk_deeper HS9.out HBi.out (blk_lt HS9.out)) (i := i) (by rw [sumTo_len]; omega)
            unfold atO
            rw [Int.toNat_natCast]
            exact h_
          have zb : wr.cell? ⟨b, i, none⟩ = some (.int .i64 (atO (sizeL has roots D2) (i : Int))) := by
            have h_ := zblk_at (blk_deeper HBK.out HBT.out HBB.out) (i := i) (by rw [HSL.out]; omega)
            unfold atO
            rw [Int.toNat_natCast]
            exact h_
          have hsz := HSZ.out (i : Int) hi0 hi1
          generalize atO (sumTo D2 (sizeL has roots D2) has.length has.length) (i : Int) = p at z7 hsz
          generalize atO (sizeL has roots D2) (i : Int) = r at zb hsz
          generalize fnD D2 (i : Int) = d at hx hsz
          subst eA
          clear hlt
          by_cases hd : d = -2
          · have d1 : (d == -2) = true := by rw [hd]; decide
            have d2 : (d != -2) = false := by rw [hd]; decide
            have d3 : (r != 0) = false := by rw [hsz, if_pos hd]; decide
            clear hd hsz
            go_upto_region 26 with fail
            refine start_ (n := 25) (S := fun w' => w'.cell? ⟨b, i, none⟩ = some (.int .i64 r)) (ds := []) #[false, false, false, false, false, false, false, false, false, false, false, false, false, false, false, false, false, false, false, false, false, false, false, false, false] (by kernel_rfl) rfl rfl (zb) (fun hHeld => ?_)
            refine pure_ (i := 0) (N := some 105) (v := ?_) (a' := ?_) #[true, false, false, false, false, false, false, false, false, false, false, false, false, false, false, false, false, false, false, false, false, false, false, false, false] rfl rfl (by kernel_rfl) (fun _ _ _ h => h) (Or.inl ⟨by rfl, ?_⟩) ?_ ?_
            rotate_left
            · intro w'
              go_simp
              with_reducible rfl
            rotate_left
            · simp only [Act.put, List.setIfInBounds_toArray, List.set_cons_zero, List.set_cons_succ, i64_w, i32_w]
              rfl
            refine pure_ (i := 1) (N := some 106) (v := ?_) (a' := ?_) #[true, true, false, false, false, false, false, false, false, false, false, false, false, false, false, false, false, false, false, false, false, false, false, false, false] rfl rfl (by kernel_rfl) (fun _ _ _ h => h) (Or.inl ⟨by rfl, ?_⟩) ?_ ?_
            rotate_left
            · intro w'
              go_simp
              with_reducible rfl
            rotate_left
            · simp only [Act.put, List.setIfInBounds_toArray, List.set_cons_zero, List.set_cons_succ, i64_w, i32_w]
              rfl
            refine pure_ (i := 2) (N := some 107) (v := ?_) (a' := ?_) #[true, true, true, false, false, false, false, false, false, false, false, false, false, false, false, false, false, false, false, false, false, false, false, false, false] rfl rfl (by kernel_rfl) (fun _ _ _ h => h) (Or.inl ⟨by rfl, ?_⟩) ?_ ?_
            rotate_left
            · intro w'
              go_simp
              with_reducible rfl
            rotate_left
            · simp only [Act.put, List.setIfInBounds_toArray, List.set_cons_zero, List.set_cons_succ, i64_w, i32_w]
              rfl
            refine pure_ (i := 3) (N := some 108) (v := ?_) (a' := ?_) #[true, true, true, true, false, false, false, false, false, false, false, false, false, false, false, false, false, false, false, false, false, false, false, false, false] rfl rfl (by kernel_rfl) (fun _ _ _ h => h) (Or.inl ⟨by rfl, ?_⟩) ?_ ?_
            rotate_left
            · intro w'
              go_simp
              with_reducible rfl
            rotate_left
            · simp only [Act.put, List.setIfInBounds_toArray, List.set_cons_zero, List.set_cons_succ, i64_w, i32_w]
              rfl
            refine pure_ (i := 4) (N := some 109) (v := ?_) (a' := ?_) #[true, true, true, true, true, false, false, false, false, false, false, false, false, false, false, false, false, false, false, false, false, false, false, false, false] rfl rfl (by kernel_rfl) (fun _ _ _ h => h) (Or.inl ⟨by rfl, ?_⟩) ?_ ?_
            rotate_left
            · intro w'
              go_simp
              with_reducible rfl
            rotate_left
            · simp only [Act.put, List.setIfInBounds_toArray, List.set_cons_zero, List.set_cons_succ, i64_w, i32_w]
              rfl
            refine pure_ (i := 5) (N := some 110) (v := ?_) (a' := ?_) #[true, true, true, true, true, true, false, false, false, false, false, false, false, false, false, false, false, false, false, false, false, false, false, false, false] rfl rfl (by kernel_rfl) (fun _ _ _ h => h) (Or.inl ⟨by rfl, ?_⟩) ?_ ?_
            rotate_left
            · intro w'
              go_simp
              with_reducible rfl
            rotate_left
            · simp only [Act.put, List.setIfInBounds_toArray, List.set_cons_zero, List.set_cons_succ, i64_w, i32_w]
              rfl
            refine take_ (i := 6) (N := some 111) (v := ?_) (a' := ?_) #[true, true, true, true, true, true, true, false, false, false, false, false, false, false, false, false, false, false, false, false, false, false, false, false, false] rfl rfl (by kernel_rfl) (fun _ _ _ h => h) (Or.inl ⟨by rfl, ?_⟩) hHeld ?_ ?_
            rotate_left
            · intro w' s0
              go_simp
              with_reducible rfl
            rotate_left
            · simp only [Act.put, List.setIfInBounds_toArray, List.set_cons_zero, List.set_cons_succ, i64_w, i32_w]
              rfl
            refine pure_ (i := 7) (N := some 112) (v := ?_) (a' := ?_) #[true, true, true, true, true, true, true, true, false, false, false, false, false, false, false, false, false, false, false, false, false, false, false, false, false] rfl rfl (by kernel_rfl) (fun _ _ _ h => h) (Or.inl ⟨by rfl, ?_⟩) ?_ ?_
            rotate_left
            · intro w'
              go_simp
              with_reducible rfl
            rotate_left
            · simp only [Act.put, List.setIfInBounds_toArray, List.set_cons_zero, List.set_cons_succ, i64_w, i32_w]
              rfl
            refine pure_ (i := 8) (N := some 113) (v := ?_) (a' := ?_) #[true, true, true, true, true, true, true, true, true, false, false, false, false, false, false, false, false, false, false, false, false, false, false, false, false] rfl rfl (by kernel_rfl) (fun _ _ _ h => h) (Or.inl ⟨by rfl, ?_⟩) ?_ ?_
            rotate_left
            · intro w'
              go_simp
              with_reducible rfl
            rotate_left
            · simp only [Act.put, List.setIfInBounds_toArray, List.set_cons_zero, List.set_cons_succ, i64_w, i32_w]
              rfl
            refine pure_ (i := 9) (N := some 114) (v := ?_) (a' := ?_) #[true, true, true, true, true, true, true, true, true, true, false, false, false, false, false, false, false, false, false, false, false, false, false, false, false] rfl rfl (by kernel_rfl) (fun _ _ _ h => h) (Or.inl ⟨by rfl, ?_⟩) ?_ ?_
            rotate_left
            · intro w'
              go_simp
              with_reducible rfl
            rotate_left
            · simp only [Act.put, List.setIfInBounds_toArray, List.set_cons_zero, List.set_cons_succ, i64_w, i32_w]
              rfl
            refine pure_ (i := 10) (N := some 115) (v := ?_) (a' := ?_) #[true, true, true, true, true, true, true, true, true, true, true, false, false, false, false, false, false, false, false, false, false, false, false, false, false] rfl rfl (by kernel_rfl) (fun _ _ _ h => h) (Or.inl ⟨by rfl, ?_⟩) ?_ ?_
            rotate_left
            · intro w'
              go_simp
              with_reducible rfl
            rotate_left
            · simp only [Act.put, List.setIfInBounds_toArray, List.set_cons_zero, List.set_cons_succ, i64_w, i32_w]
              rfl
            refine pure_ (i := 11) (N := some 116) (v := ?_) (a' := ?_) #[true, true, true, true, true, true, true, true, true, true, true, true, false, false, false, false, false, false, false, false, false, false, false, false, false] rfl rfl (by kernel_rfl) (fun _ _ _ h => h) (Or.inl ⟨by rfl, ?_⟩) ?_ ?_
            rotate_left
            · intro w'
              go_simp
              with_reducible rfl
            rotate_left
            · simp only [Act.put, List.setIfInBounds_toArray, List.set_cons_zero, List.set_cons_succ, i64_w, i32_w]
              rfl
            refine pure_ (i := 12) (N := some 117) (v := ?_) (a' := ?_) #[true, true, true, true, true, true, true, true, true, true, true, true, true, false, false, false, false, false, false, false, false, false, false, false, false] rfl rfl (by kernel_rfl) (fun _ _ _ h => h) (Or.inl ⟨by rfl, ?_⟩) ?_ ?_
            rotate_left
            · intro w'
              go_simp
              with_reducible rfl
            rotate_left
            · simp only [Act.put, List.setIfInBounds_toArray, List.set_cons_zero, List.set_cons_succ, i64_w, i32_w]
              rfl
            refine pure_ (i := 13) (N := some 118) (v := undef) (a' := ?_) #[true, true, true, true, true, true, true, true, true, true, true, true, true, true, false, false, false, false, false, false, false, false, false, false, false] rfl rfl (by kernel_rfl) (fun _ _ _ h => h) (Or.inr ⟨by rfl, rfl⟩) ?_ ?_
            rotate_left
            · simp only [Act.put, List.setIfInBounds_toArray, List.set_cons_zero, List.set_cons_succ, i64_w, i32_w]
              rfl
            refine pure_ (i := 14) (N := some 119) (v := undef) (a' := ?_) #[true, true, true, true, true, true, true, true, true, true, true, true, true, true, true, false, false, false, false, false, false, false, false, false, false] rfl rfl (by kernel_rfl) (fun _ _ _ h => h) (Or.inr ⟨by rfl, rfl⟩) ?_ ?_
            rotate_left
            · simp only [Act.put, List.setIfInBounds_toArray, List.set_cons_zero, List.set_cons_succ, i64_w, i32_w]
              rfl
            refine pure_ (i := 15) (N := some 120) (v := undef) (a' := ?_) #[true, true, true, true, true, true, true, true, true, true, true, true, true, true, true, true, false, false, false, false, false, false, false, false, false] rfl rfl (by kernel_rfl) (fun _ _ _ h => h) (Or.inr ⟨by rfl, rfl⟩) ?_ ?_
            rotate_left
            · simp only [Act.put, List.setIfInBounds_toArray, List.set_cons_zero, List.set_cons_succ, i64_w, i32_w]
              rfl
            refine pure_ (i := 16) (N := some 121) (v := undef) (a' := ?_) #[true, true, true, true, true, true, true, true, true, true, true, true, true, true, true, true, true, false, false, false, false, false, false, false, false] rfl rfl (by kernel_rfl) (fun _ _ _ h => h) (Or.inr ⟨by rfl, rfl⟩) ?_ ?_
            rotate_left
            · simp only [Act.put, List.setIfInBounds_toArray, List.set_cons_zero, List.set_cons_succ, i64_w, i32_w]
              rfl
            refine pure_ (i := 17) (N := some 122) (v := undef) (a' := ?_) #[true, true, true, true, true, true, true, true, true, true, true, true, true, true, true, true, true, true, false, false, false, false, false, false, false] rfl rfl (by kernel_rfl) (fun _ _ _ h => h) (Or.inr ⟨by rfl, rfl⟩) ?_ ?_
            rotate_left
            · simp only [Act.put, List.setIfInBounds_toArray, List.set_cons_zero, List.set_cons_succ, i64_w, i32_w]
              rfl
            refine pure_ (i := 18) (N := some 123) (v := undef) (a' := ?_) #[true, true, true, true, true, true, true, true, true, true, true, true, true, true, true, true, true, true, true, false, false, false, false, false, false] rfl rfl (by kernel_rfl) (fun _ _ _ h => h) (Or.inr ⟨by rfl, rfl⟩) ?_ ?_
            rotate_left
            · simp only [Act.put, List.setIfInBounds_toArray, List.set_cons_zero, List.set_cons_succ, i64_w, i32_w]
              rfl
            refine pure_ (i := 19) (N := some 124) (v := undef) (a' := ?_) #[true, true, true, true, true, true, true, true, true, true, true, true, true, true, true, true, true, true, true, true, false, false, false, false, false] rfl rfl (by kernel_rfl) (fun _ _ _ h => h) (Or.inr ⟨by rfl, rfl⟩) ?_ ?_
            rotate_left
            · simp only [Act.put, List.setIfInBounds_toArray, List.set_cons_zero, List.set_cons_succ, i64_w, i32_w]
              rfl
            refine pure_ (i := 20) (N := some 125) (v := undef) (a' := ?_) #[true, true, true, true, true, true, true, true, true, true, true, true, true, true, true, true, true, true, true, true, true, false, false, false, false] rfl rfl (by kernel_rfl) (fun _ _ _ h => h) (Or.inr ⟨by rfl, rfl⟩) ?_ ?_
            rotate_left
            · simp only [Act.put, List.setIfInBounds_toArray, List.set_cons_zero, List.set_cons_succ, i64_w, i32_w]
              rfl
            refine pure_ (i := 21) (N := some 126) (v := undef) (a' := ?_) #[true, true, true, true, true, true, true, true, true, true, true, true, true, true, true, true, true, true, true, true, true, true, false, false, false] rfl rfl (by kernel_rfl) (fun _ _ _ h => h) (Or.inr ⟨by rfl, rfl⟩) ?_ ?_
            rotate_left
            · simp only [Act.put, List.setIfInBounds_toArray, List.set_cons_zero, List.set_cons_succ, i64_w, i32_w]
              rfl
            refine pure_ (i := 22) (N := some 127) (v := undef) (a' := ?_) #[true, true, true, true, true, true, true, true, true, true, true, true, true, true, true, true, true, true, true, true, true, true, true, false, false] rfl rfl (by kernel_rfl) (fun _ _ _ h => h) (Or.inr ⟨by rfl, rfl⟩) ?_ ?_
            rotate_left
            · simp only [Act.put, List.setIfInBounds_toArray, List.set_cons_zero, List.set_cons_succ, i64_w, i32_w]
              rfl
            refine pure_ (i := 23) (N := some 128) (v := ?_) (a' := ?_) #[true, true, true, true, true, true, true, true, true, true, true, true, true, true, true, true, true, true, true, true, true, true, true, true, false] rfl rfl (by kernel_rfl) (fun _ _ _ h => h) (Or.inl ⟨by rfl, ?_⟩) ?_ ?_
            rotate_left
            · intro w'
              go_simp
              with_reducible rfl
            rotate_left
            · simp only [Act.put, List.setIfInBounds_toArray, List.set_cons_zero, List.set_cons_succ, i64_w, i32_w]
              rfl
            refine pure_ (i := 24) (N := some 129) (v := ?_) (a' := ?_) #[true, true, true, true, true, true, true, true, true, true, true, true, true, true, true, true, true, true, true, true, true, true, true, true, true] rfl rfl (by kernel_rfl) (fun _ _ _ h => h) (Or.inl ⟨by rfl, ?_⟩) ?_ ?_
            rotate_left
            · intro w'
              go_simp
              with_reducible rfl
            rotate_left
            · simp only [Act.put, List.setIfInBounds_toArray, List.set_cons_zero, List.set_cons_succ, i64_w, i32_w]
              rfl
            refine done_ (by kernel_rfl) ?_
            go_wp2_with fail
            go_roundg (has.length - (i + 1))
            case measure => have := HIQ.out; have := HLT.out; omega
            case rel => exact ⟨i + 1, by first | rfl | rw [HIW.out], ⟨by have := HLT.out; omega, rfl⟩, ⟨below_drew HBi.out⟩⟩
          · have d1 : (d == -2) = false := beq_eq_false_iff_ne.mpr hd
            have d2 : (d != -2) = true := bne_iff_ne.mpr hd
            have d3 : (r != wrap64 (1 + p)) = false := by rw [hsz, if_neg hd]; simp
            clear hd hsz
            go_upto_region 26 with fail
            refine start_ (n := 25) (S := fun w' => w'.cell? ⟨b, i, none⟩ = some (.int .i64 r) ∧ w'.cell? ⟨b7, i, none⟩ = some (.int .i64 p)) (ds := []) #[false, false, false, false, false, false, false, false, false, false, false, false, false, false, false, false, false, false, false, false, false, false, false, false, false] (by kernel_rfl) rfl rfl ⟨zb, z7⟩ (fun hHeld => ?_)
            refine pure_ (i := 0) (N := some 105) (v := ?_) (a' := ?_) #[true, false, false, false, false, false, false, false, false, false, false, false, false, false, false, false, false, false, false, false, false, false, false, false, false] rfl rfl (by kernel_rfl) (fun _ _ _ h => h) (Or.inl ⟨by rfl, ?_⟩) ?_ ?_
            rotate_left
            · intro w'
              go_simp
              with_reducible rfl
            rotate_left
            · simp only [Act.put, List.setIfInBounds_toArray, List.set_cons_zero, List.set_cons_succ, i64_w, i32_w]
              rfl
            refine pure_ (i := 1) (N := some 106) (v := ?_) (a' := ?_) #[true, true, false, false, false, false, false, false, false, false, false, false, false, false, false, false, false, false, false, false, false, false, false, false, false] rfl rfl (by kernel_rfl) (fun _ _ _ h => h) (Or.inl ⟨by rfl, ?_⟩) ?_ ?_
            rotate_left
            · intro w'
              go_simp
              with_reducible rfl
            rotate_left
            · simp only [Act.put, List.setIfInBounds_toArray, List.set_cons_zero, List.set_cons_succ, i64_w, i32_w]
              rfl
            refine pure_ (i := 2) (N := some 107) (v := ?_) (a' := ?_) #[true, true, true, false, false, false, false, false, false, false, false, false, false, false, false, false, false, false, false, false, false, false, false, false, false] rfl rfl (by kernel_rfl) (fun _ _ _ h => h) (Or.inl ⟨by rfl, ?_⟩) ?_ ?_
            rotate_left
            · intro w'
              go_simp
              with_reducible rfl
            rotate_left
            · simp only [Act.put, List.setIfInBounds_toArray, List.set_cons_zero, List.set_cons_succ, i64_w, i32_w]
              rfl
            refine pure_ (i := 3) (N := some 108) (v := undef) (a' := ?_) #[true, true, true, true, false, false, false, false, false, false, false, false, false, false, false, false, false, false, false, false, false, false, false, false, false] rfl rfl (by kernel_rfl) (fun _ _ _ h => h) (Or.inr ⟨by rfl, rfl⟩) ?_ ?_
            rotate_left
            · simp only [Act.put, List.setIfInBounds_toArray, List.set_cons_zero, List.set_cons_succ, i64_w, i32_w]
              rfl
            refine pure_ (i := 4) (N := some 109) (v := undef) (a' := ?_) #[true, true, true, true, true, false, false, false, false, false, false, false, false, false, false, false, false, false, false, false, false, false, false, false, false] rfl rfl (by kernel_rfl) (fun _ _ _ h => h) (Or.inr ⟨by rfl, rfl⟩) ?_ ?_
            rotate_left
            · simp only [Act.put, List.setIfInBounds_toArray, List.set_cons_zero, List.set_cons_succ, i64_w, i32_w]
              rfl
            refine pure_ (i := 5) (N := some 110) (v := undef) (a' := ?_) #[true, true, true, true, true, true, false, false, false, false, false, false, false, false, false, false, false, false, false, false, false, false, false, false, false] rfl rfl (by kernel_rfl) (fun _ _ _ h => h) (Or.inr ⟨by rfl, rfl⟩) ?_ ?_
            rotate_left
            · simp only [Act.put, List.setIfInBounds_toArray, List.set_cons_zero, List.set_cons_succ, i64_w, i32_w]
              rfl
            refine pure_ (i := 6) (N := some 111) (v := undef) (a' := ?_) #[true, true, true, true, true, true, true, false, false, false, false, false, false, false, false, false, false, false, false, false, false, false, false, false, false] rfl rfl (by kernel_rfl) (fun _ _ _ h => h) (Or.inr ⟨by rfl, rfl⟩) ?_ ?_
            rotate_left
            · simp only [Act.put, List.setIfInBounds_toArray, List.set_cons_zero, List.set_cons_succ, i64_w, i32_w]
              rfl
            refine pure_ (i := 7) (N := some 112) (v := undef) (a' := ?_) #[true, true, true, true, true, true, true, true, false, false, false, false, false, false, false, false, false, false, false, false, false, false, false, false, false] rfl rfl (by kernel_rfl) (fun _ _ _ h => h) (Or.inr ⟨by rfl, rfl⟩) ?_ ?_
            rotate_left
            · simp only [Act.put, List.setIfInBounds_toArray, List.set_cons_zero, List.set_cons_succ, i64_w, i32_w]
              rfl
            refine pure_ (i := 8) (N := some 113) (v := ?_) (a' := ?_) #[true, true, true, true, true, true, true, true, true, false, false, false, false, false, false, false, false, false, false, false, false, false, false, false, false] rfl rfl (by kernel_rfl) (fun _ _ _ h => h) (Or.inl ⟨by rfl, ?_⟩) ?_ ?_
            rotate_left
            · intro w'
              go_simp
              with_reducible rfl
            rotate_left
            · simp only [Act.put, List.setIfInBounds_toArray, List.set_cons_zero, List.set_cons_succ, i64_w, i32_w]
              rfl
            refine pure_ (i := 9) (N := some 114) (v := ?_) (a' := ?_) #[true, true, true, true, true, true, true, true, true, true, false, false, false, false, false, false, false, false, false, false, false, false, false, false, false] rfl rfl (by kernel_rfl) (fun _ _ _ h => h) (Or.inl ⟨by rfl, ?_⟩) ?_ ?_
            rotate_left
            · intro w'
              go_simp
              with_reducible rfl
            rotate_left
            · simp only [Act.put, List.setIfInBounds_toArray, List.set_cons_zero, List.set_cons_succ, i64_w, i32_w]
              rfl
            refine pure_ (i := 10) (N := some 115) (v := ?_) (a' := ?_) #[true, true, true, true, true, true, true, true, true, true, true, false, false, false, false, false, false, false, false, false, false, false, false, false, false] rfl rfl (by kernel_rfl) (fun _ _ _ h => h) (Or.inl ⟨by rfl, ?_⟩) ?_ ?_
            rotate_left
            · intro w'
              go_simp
              with_reducible rfl
            rotate_left
            · simp only [Act.put, List.setIfInBounds_toArray, List.set_cons_zero, List.set_cons_succ, i64_w, i32_w]
              rfl
            refine pure_ (i := 11) (N := some 116) (v := ?_) (a' := ?_) #[true, true, true, true, true, true, true, true, true, true, true, true, false, false, false, false, false, false, false, false, false, false, false, false, false] rfl rfl (by kernel_rfl) (fun _ _ _ h => h) (Or.inl ⟨by rfl, ?_⟩) ?_ ?_
            rotate_left
            · intro w'
              go_simp
              with_reducible rfl
            rotate_left
            · simp only [Act.put, List.setIfInBounds_toArray, List.set_cons_zero, List.set_cons_succ, i64_w, i32_w]
              rfl
            refine pure_ (i := 12) (N := some 117) (v := ?_) (a' := ?_) #[true, true, true, true, true, true, true, true, true, true, true, true, true, false, false, false, false, false, false, false, false, false, false, false, false] rfl rfl (by kernel_rfl) (fun _ _ _ h => h) (Or.inl ⟨by rfl, ?_⟩) ?_ ?_
            rotate_left
            · intro w'
              go_simp
              with_reducible rfl
            rotate_left
            · simp only [Act.put, List.setIfInBounds_toArray, List.set_cons_zero, List.set_cons_succ, i64_w, i32_w]
              rfl
            refine pure_ (i := 13) (N := some 118) (v := ?_) (a' := ?_) #[true, true, true, true, true, true, true, true, true, true, true, true, true, true, false, false, false, false, false, false, false, false, false, false, false] rfl rfl (by kernel_rfl) (fun _ _ _ h => h) (Or.inl ⟨by rfl, ?_⟩) ?_ ?_
            rotate_left
            · intro w'
              go_simp
              with_reducible rfl
            rotate_left
            · simp only [Act.put, List.setIfInBounds_toArray, List.set_cons_zero, List.set_cons_succ, i64_w, i32_w]
              rfl
            refine pure_ (i := 14) (N := some 119) (v := ?_) (a' := ?_) #[true, true, true, true, true, true, true, true, true, true, true, true, true, true, true, false, false, false, false, false, false, false, false, false, false] rfl rfl (by kernel_rfl) (fun _ _ _ h => h) (Or.inl ⟨by rfl, ?_⟩) ?_ ?_
            rotate_left
            · intro w'
              go_simp
              with_reducible rfl
            rotate_left
            · simp only [Act.put, List.setIfInBounds_toArray, List.set_cons_zero, List.set_cons_succ, i64_w, i32_w]
              rfl
            refine pure_ (i := 15) (N := some 120) (v := ?_) (a' := ?_) #[true, true, true, true, true, true, true, true, true, true, true, true, true, true, true, true, false, false, false, false, false, false, false, false, false] rfl rfl (by kernel_rfl) (fun _ _ _ h => h) (Or.inl ⟨by rfl, ?_⟩) ?_ ?_
            rotate_left
            · intro w'
              go_simp
              with_reducible rfl
            rotate_left
            · simp only [Act.put, List.setIfInBounds_toArray, List.set_cons_zero, List.set_cons_succ, i64_w, i32_w]
              rfl
            refine pure_ (i := 17) (N := some 122) (v := ?_) (a' := ?_) #[true, true, true, true, true, true, true, true, true, true, true, true, true, true, true, true, false, true, false, false, false, false, false, false, false] rfl rfl (by kernel_rfl) (fun _ _ _ h => h) (Or.inl ⟨by rfl, ?_⟩) ?_ ?_
            rotate_left
            · intro w'
              go_simp
              with_reducible rfl
            rotate_left
            · simp only [Act.put, List.setIfInBounds_toArray, List.set_cons_zero, List.set_cons_succ, i64_w, i32_w]
              rfl
            refine pure_ (i := 18) (N := some 123) (v := ?_) (a' := ?_) #[true, true, true, true, true, true, true, true, true, true, true, true, true, true, true, true, false, true, true, false, false, false, false, false, false] rfl rfl (by kernel_rfl) (fun _ _ _ h => h) (Or.inl ⟨by rfl, ?_⟩) ?_ ?_
            rotate_left
            · intro w'
              go_simp
              with_reducible rfl
            rotate_left
            · simp only [Act.put, List.setIfInBounds_toArray, List.set_cons_zero, List.set_cons_succ, i64_w, i32_w]
              rfl
            refine pure_ (i := 19) (N := some 124) (v := ?_) (a' := ?_) #[true, true, true, true, true, true, true, true, true, true, true, true, true, true, true, true, false, true, true, true, false, false, false, false, false] rfl rfl (by kernel_rfl) (fun _ _ _ h => h) (Or.inl ⟨by rfl, ?_⟩) ?_ ?_
            rotate_left
            · intro w'
              go_simp
              with_reducible rfl
            rotate_left
            · simp only [Act.put, List.setIfInBounds_toArray, List.set_cons_zero, List.set_cons_succ, i64_w, i32_w]
              rfl
            refine take_ (i := 16) (N := some 121) (v := ?_) (a' := ?_) #[true, true, true, true, true, true, true, true, true, true, true, true, true, true, true, true, true, true, true, true, false, false, false, false, false] rfl rfl (by kernel_rfl) (fun _ _ _ h => h) (Or.inl ⟨by rfl, ?_⟩) hHeld ?_ ?_
            rotate_left
            · rintro w' ⟨s0, s1⟩
              go_simp
              with_reducible rfl
            rotate_left
            · simp only [Act.put, List.setIfInBounds_toArray, List.set_cons_zero, List.set_cons_succ, i64_w, i32_w]
              rfl
            refine take_ (i := 20) (N := some 125) (v := ?_) (a' := ?_) #[true, true, true, true, true, true, true, true, true, true, true, true, true, true, true, true, true, true, true, true, true, false, false, false, false] rfl rfl (by kernel_rfl) (fun _ _ _ h => h) (Or.inl ⟨by rfl, ?_⟩) hHeld ?_ ?_
            rotate_left
            · rintro w' ⟨s0, s1⟩
              go_simp
              with_reducible rfl
            rotate_left
            · simp only [Act.put, List.setIfInBounds_toArray, List.set_cons_zero, List.set_cons_succ, i64_w, i32_w]
              rfl
            refine pure_ (i := 21) (N := some 126) (v := ?_) (a' := ?_) #[true, true, true, true, true, true, true, true, true, true, true, true, true, true, true, true, true, true, true, true, true, true, false, false, false] rfl rfl (by kernel_rfl) (fun _ _ _ h => h) (Or.inl ⟨by rfl, ?_⟩) ?_ ?_
            rotate_left
            · intro w'
              go_simp
              with_reducible rfl
            rotate_left
            · simp only [Act.put, List.setIfInBounds_toArray, List.set_cons_zero, List.set_cons_succ, i64_w, i32_w]
              rfl
            refine pure_ (i := 22) (N := some 127) (v := ?_) (a' := ?_) #[true, true, true, true, true, true, true, true, true, true, true, true, true, true, true, true, true, true, true, true, true, true, true, false, false] rfl rfl (by kernel_rfl) (fun _ _ _ h => h) (Or.inl ⟨by rfl, ?_⟩) ?_ ?_
            rotate_left
            · intro w'
              go_simp
              with_reducible rfl
            rotate_left
            · simp only [Act.put, List.setIfInBounds_toArray, List.set_cons_zero, List.set_cons_succ, i64_w, i32_w]
              rfl
            refine pure_ (i := 23) (N := some 128) (v := ?_) (a' := ?_) #[true, true, true, true, true, true, true, true, true, true, true, true, true, true, true, true, true, true, true, true, true, true, true, true, false] rfl rfl (by kernel_rfl) (fun _ _ _ h => h) (Or.inl ⟨by rfl, ?_⟩) ?_ ?_
            rotate_left
            · intro w'
              go_simp
              with_reducible rfl
            rotate_left
            · simp only [Act.put, List.setIfInBounds_toArray, List.set_cons_zero, List.set_cons_succ, i64_w, i32_w]
              rfl
            refine pure_ (i := 24) (N := some 129) (v := ?_) (a' := ?_) #[true, true, true, true, true, true, true, true, true, true, true, true, true, true, true, true, true, true, true, true, true, true, true, true, true] rfl rfl (by kernel_rfl) (fun _ _ _ h => h) (Or.inl ⟨by rfl, ?_⟩) ?_ ?_
            rotate_left
            · intro w'
              go_simp
              with_reducible rfl
            rotate_left
            · simp only [Act.put, List.setIfInBounds_toArray, List.set_cons_zero, List.set_cons_succ, i64_w, i32_w]
              rfl
            refine done_ (by kernel_rfl) ?_
            go_wp2_with fail
            go_roundg (has.length - (i + 1))
            case measure => have := HIQ.out; have := HLT.out; omega
            case rel => exact ⟨i + 1, by first | rfl | rw [HIW.out], ⟨by have := HLT.out; omega, rfl⟩, ⟨below_drew HBi.out⟩⟩
        · have e_ : i = has.length := by have := HIQ.out; omega
          subst e_
          have hdec : decide ((has.length : Int) < (has.length : Int)) = false := decide_eq_false (by omega)
          have hdec2 : decide (has.length < has.length) = false := decide_eq_false hlt
          clear hlt
          go_wp2_with fail
          refine (owned_calls _).mono ?_
          rintro e w9 ⟨rfl, hb9⟩
          have HBF : Aside0 (Below w.heap.size w w9) := ⟨below_step (HB4.out.trans (HBT.out.mono (by rw [H47.out]; exact HB4.out.size))) hb9⟩
          clear hb9
          go_wp2_with fail
          go_ret
          exact ⟨rfl, HBF.out⟩
end Go.Proofs.Ytoleplbmkdhgeaa.Own
