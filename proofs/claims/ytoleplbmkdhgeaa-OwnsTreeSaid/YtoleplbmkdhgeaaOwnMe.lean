/- Package owns walked: meet. -/
import Derived.Test.YtoleplbmkdhgeaaOwnSt
import Derived.Test.YtoleplbmkdhgeaaPN1
set_option linter.unusedVariables false
set_option linter.unusedSimpArgs false
namespace Go.Proofs.Ytoleplbmkdhgeaa.Own
open Go.RowKit Go.Proofs.YtoleplbmkdhgeaaW.PrintWords Go.Proofs.YtoleplbmkdhgeaaW.PrintLast Go.Proofs.YtoleplbmkdhgeaaW.PrintMore Go.Proofs.Ytoleplbmkdhgeaa.PN Go.Proofs.Ytoleplbmkdhgeaa.Hnd Go.Lib

theorem meetF_same (pos dm : Int → Int) (K : Nat) (x : Int) : meetF pos dm K x x = x := by cases K with | zero => rfl | succ K => unfold meetF; rw [if_pos rfl]
theorem meetF_succ (pos dm : Int → Int) (k : Nat) (a b : Int) : meetF pos dm (k + 1) a b = if a = b then a else if a = -1 ∨ b = -1 then -1 else if pos a > pos b then meetF pos dm k (dm a) b else meetF pos dm k a (dm b) := rfl
def mz (pos : Int → Int) (a : Int) : Nat := if a = -1 then 0 else (pos a).toNat + 1
theorem fnD_at (D : List Int) {x : Int} (h : 0 ≤ x) : fnD D x = D.getD x.toNat (-2) := by unfold fnD; rw [if_pos h]
set_option maxHeartbeats 16000000 in
set_option maxRecDepth 100000 in
theorem meet_calls {root : Int → Prop} {edge : Int → Int → Prop} {rpo : List Int} {prd : Int → List Int} (W : World) {B g N : Nat} {h0 h1 vP vo vF vD : Value} {ps : List Value} {s : Ds} {D : List Int} (h : OS W B g h0 h1 vP vo vF vD ps N s D)
    (R : Rp root edge rpo (posF s.pl) prd) (hW : Wf rpo (posF s.pl) (fnD D)) (hin : ∀ x ∈ rpo, 0 ≤ x ∧ x < (N : Int)) (K : Nat) (a b : Int) (ha : Ok rpo (fnD D) a) (hb : Ok rpo (fnD D) b) (hK : mz (posF s.pl) a + mz (posF s.pl) b ≤ K) :
    Calls Try.prog 65 #[.pointer (some ⟨g, 0, none⟩), .int .i64 a, .int .i64 b] W fun e w' => e = .returned (.int .i64 (meetF (posF s.pl) (fnD D) K a b)) ∧ Below W.heap.size W w' := by
  have HO := Aside0.mk h
  have HR := Aside0.mk (And.intro R (And.intro hW hin))
  have HA := Aside0.mk (And.intro ha (And.intro hb hK))
  obtain ⟨m, hm⟩ : ∃ m, m = meetF (posF s.pl) (fnD D) K a b := ⟨_, rfl⟩
  rw [← hm]
  have HM := Aside0.mk hm
  clear h R hW hin ha hb hK hm
  go_enter Try.func65, Try.ntmps65
  go_wp2_with fail
  go_loopg [1, 2] K (fun kq v1 v2 w' => ∃ x y : Int, v1 = .int .i64 x ∧ v2 = .int .i64 y ∧ Aside0 (Ok rpo (fnD D) x ∧ Ok rpo (fnD D) y ∧ mz (posF s.pl) x + mz (posF s.pl) y ≤ kq ∧ m = meetF (posF s.pl) (fnD D) kq x y) ∧ Aside0 (Below W.heap.size W w'))
  case atStart => exact ⟨a, b, rfl, rfl, ⟨HA.out.1, HA.out.2.1, HA.out.2.2, HM.out⟩, ⟨Below.refl _ _⟩⟩
  case round =>
    obtain ⟨x, y, rfl, rfl, HQ, HB⟩ := hrel
    have HOw := Aside0.mk (HO.out.below HB.out)
    by_cases hxy : x = y
    · have d0 : (x != y) = false := by rw [hxy]; simp
      have HV : Aside0 (m = x) := ⟨by rw [HQ.out.2.2.2, hxy, meetF_same]⟩
      clear hxy
      go_wp2_with fail
      go_ret
      rw [HV.out]
      exact ⟨rfl, HB.out⟩
    · have d0 : (x != y) = true := bne_iff_ne.mpr hxy
      have HXY := Aside0.mk hxy
      obtain ⟨kp, hkp⟩ : ∃ kp, gk = kp + 1 := ⟨gk - 1, by
        have h_ := HQ.out.2.2.1
        unfold mz at h_
        by_cases e1 : x = -1
        · rw [if_pos e1] at h_
          by_cases e2 : y = -1
          · exact absurd (e1.trans e2.symm) hxy
          · rw [if_neg e2] at h_; omega
        · rw [if_neg e1] at h_; omega⟩
      have HKP := Aside0.mk hkp
      clear hxy
      by_cases h1 : x = -1
      · have d1 : (x == -1) = true := by rw [beq_iff_eq]; exact h1
        have HV : Aside0 (m = -1) := ⟨by rw [HQ.out.2.2.2, hkp, meetF_succ, if_neg HXY.out, if_pos (.inl h1)]⟩
        clear h1 hkp
        go_wp2_with fail
        go_ret
        rw [HV.out]
        exact ⟨rfl, HB.out⟩
      have d1 : (x == -1) = false := beq_eq_false_iff_ne.mpr h1
      by_cases h2 : y = -1
      · have d2 : (y == -1) = true := by rw [beq_iff_eq]; exact h2
        have HV : Aside0 (m = -1) := ⟨by rw [HQ.out.2.2.2, hkp, meetF_succ, if_neg HXY.out, if_pos (.inr h2)]⟩
        clear h1 h2 hkp
        go_wp2_with fail
        go_ret
        rw [HV.out]
        exact ⟨rfl, HB.out⟩
      have d2 : (y == -1) = false := beq_eq_false_iff_ne.mpr h2
      have hxr : x ∈ rpo ∧ fnD D x ≠ -2 := HQ.out.1.resolve_left h1
      have hyr : y ∈ rpo ∧ fnD D y ≠ -2 := HQ.out.2.1.resolve_left h2
      have hx := HR.out.2.2 x hxr.1
      have hy := HR.out.2.2 y hyr.1
      obtain ⟨bP, cP, eP⟩ := HOw.out.sP (by omega)
      obtain ⟨bD, cD, eD⟩ := HOw.out.sD (by omega)
      have c2 := HOw.out.c2
      have c5 := HOw.out.c5
      have px := HOw.out.cellP eP (i := x.toNat) (by omega)
      have py := HOw.out.cellP eP (i := y.toNat) (by omega)
      have qx := HOw.out.cellD eD (i := x.toNat) (by omega)
      have qy := HOw.out.cellD eD (i := y.toNat) (by omega)
      rw [eP] at c2
      rw [eD] at c5
      have ex : s.pl.getD x.toNat (-2) = posF s.pl x := rfl
      have ey : s.pl.getD y.toNat (-2) = posF s.pl y := rfl
      have fx : D.getD x.toNat (-2) = fnD D x := (fnD_at D hx.1).symm
      have fy : D.getD y.toNat (-2) = fnD D y := (fnD_at D hy.1).symm
      rw [ex] at px
      rw [ey] at py
      rw [fx] at qx
      rw [fy] at qy
      have x0 : (0 : Int) ≤ x := hx.1
      have x1 : x < (N : Int) := hx.2
      have y0 : (0 : Int) ≤ y := hy.1
      have y1 : y < (N : Int) := hy.2
      have HXR := Aside0.mk (And.intro hxr hyr)
      have H12 : Aside0 (x ≠ -1 ∧ y ≠ -1) := ⟨⟨h1, h2⟩⟩
      have HV : Aside0 (m = if posF s.pl x > posF s.pl y then meetF (posF s.pl) (fnD D) kp (fnD D x) y else meetF (posF s.pl) (fnD D) kp x (fnD D y)) := ⟨by rw [HQ.out.2.2.2, hkp, meetF_succ, if_neg HXY.out, if_neg (fun q => q.elim h1 h2)]⟩
      have HMZ : Aside0 ((posF s.pl x).toNat + 1 + ((posF s.pl y).toNat + 1) ≤ kp + 1) := ⟨by
        have h_ := HQ.out.2.2.1
        unfold mz at h_
        rw [if_neg h1, if_neg h2, hkp] at h_
        exact h_⟩
      clear hxr hyr hx hy ex ey fx fy h1 h2 hkp
      by_cases hp : posF s.pl x > posF s.pl y
      · have d3 : decide (posF s.pl x > posF s.pl y) = true := decide_eq_true hp
        have d4 : decide (posF s.pl y < posF s.pl x) = true := d3
        have HP := Aside0.mk hp
        clear hp
        go_wp2_with fail
        refine start_ (n := 15) (S := fun w' => Below wr.heap.size wr w' ∧ w'.cell? ⟨g, 2, none⟩ = some (.slice (some ⟨bP, 0, none⟩) N cP) ∧ w'.cell? ⟨bP, x.toNat, none⟩ = some (.int .i64 (posF s.pl x)) ∧ w'.cell? ⟨bP, y.toNat, none⟩ = some (.int .i64 (posF s.pl y)) ∧ w'.cell? ⟨g, 5, none⟩ = some (.slice (some ⟨bD, 0, none⟩) N cD) ∧ w'.cell? ⟨bD, x.toNat, none⟩ = some (.int .i64 (fnD D x)) ∧ w'.cell? ⟨bD, y.toNat, none⟩ = some (.int .i64 (fnD D y))) (ds := []) #[false, false, false, false, false, false, false, false, false, false, false, false, false, false, false] (by kernel_rfl) rfl rfl ⟨(below_drew (Below.refl _ _)), c2, px, py, c5, qx, qy⟩ (fun hHeld => ?_)
        refine pure_ (i := 0) (N := some 16) (v := ?_) (a' := ?_) #[true, false, false, false, false, false, false, false, false, false, false, false, false, false, false] rfl rfl (by kernel_rfl) (fun _ _ _ h => h) (Or.inl ⟨by rfl, ?_⟩) ?_ ?_
        rotate_left
        · intro w'
          go_simp
          with_reducible rfl
        rotate_left
        · simp only [Act.put, List.setIfInBounds_toArray, List.set_cons_zero, List.set_cons_succ, i64_w, i32_w]
          rfl
        refine pure_ (i := 1) (N := some 17) (v := ?_) (a' := ?_) #[true, true, false, false, false, false, false, false, false, false, false, false, false, false, false] rfl rfl (by kernel_rfl) (fun _ _ _ h => h) (Or.inl ⟨by rfl, ?_⟩) ?_ ?_
        rotate_left
        · intro w'
          go_simp
          with_reducible rfl
        rotate_left
        · simp only [Act.put, List.setIfInBounds_toArray, List.set_cons_zero, List.set_cons_succ, i64_w, i32_w]
          rfl
        refine pure_ (i := 2) (N := some 18) (v := ?_) (a' := ?_) #[true, true, true, false, false, false, false, false, false, false, false, false, false, false, false] rfl rfl (by kernel_rfl) (fun _ _ _ h => h) (Or.inl ⟨by rfl, ?_⟩) ?_ ?_
        rotate_left
        · intro w'
          go_simp
          with_reducible rfl
        rotate_left
        · simp only [Act.put, List.setIfInBounds_toArray, List.set_cons_zero, List.set_cons_succ, i64_w, i32_w]
          rfl
        refine pure_ (i := 4) (N := some 20) (v := ?_) (a' := ?_) #[true, true, true, false, true, false, false, false, false, false, false, false, false, false, false] rfl rfl (by kernel_rfl) (fun _ _ _ h => h) (Or.inl ⟨by rfl, ?_⟩) ?_ ?_
        rotate_left
        · intro w'
          go_simp
          with_reducible rfl
        rotate_left
        · simp only [Act.put, List.setIfInBounds_toArray, List.set_cons_zero, List.set_cons_succ, i64_w, i32_w]
          rfl
        refine pure_ (i := 7) (N := some 23) (v := ?_) (a' := ?_) #[true, true, true, false, true, false, false, true, false, false, false, false, false, false, false] rfl rfl (by kernel_rfl) (fun _ _ _ h => h) (Or.inl ⟨by rfl, ?_⟩) ?_ ?_
        rotate_left
        · intro w'
          go_simp
          with_reducible rfl
        rotate_left
        · simp only [Act.put, List.setIfInBounds_toArray, List.set_cons_zero, List.set_cons_succ, i64_w, i32_w]
          rfl
        refine pure_ (i := 8) (N := some 24) (v := ?_) (a' := ?_) #[true, true, true, false, true, false, false, true, true, false, false, false, false, false, false] rfl rfl (by kernel_rfl) (fun _ _ _ h => h) (Or.inl ⟨by rfl, ?_⟩) ?_ ?_
        rotate_left
        · intro w'
          go_simp
          with_reducible rfl
        rotate_left
        · simp only [Act.put, List.setIfInBounds_toArray, List.set_cons_zero, List.set_cons_succ, i64_w, i32_w]
          rfl
        refine pure_ (i := 9) (N := some 25) (v := ?_) (a' := ?_) #[true, true, true, false, true, false, false, true, true, true, false, false, false, false, false] rfl rfl (by kernel_rfl) (fun _ _ _ h => h) (Or.inl ⟨by rfl, ?_⟩) ?_ ?_
        rotate_left
        · intro w'
          go_simp
          with_reducible rfl
        rotate_left
        · simp only [Act.put, List.setIfInBounds_toArray, List.set_cons_zero, List.set_cons_succ, i64_w, i32_w]
          rfl
        refine pure_ (i := 11) (N := some 27) (v := ?_) (a' := ?_) #[true, true, true, false, true, false, false, true, true, true, false, true, false, false, false] rfl rfl (by kernel_rfl) (fun _ _ _ h => h) (Or.inl ⟨by rfl, ?_⟩) ?_ ?_
        rotate_left
        · intro w'
          go_simp
          with_reducible rfl
        rotate_left
        · simp only [Act.put, List.setIfInBounds_toArray, List.set_cons_zero, List.set_cons_succ, i64_w, i32_w]
          rfl
        refine take_ (i := 3) (N := some 19) (v := ?_) (a' := ?_) #[true, true, true, true, true, false, false, true, true, true, false, true, false, false, false] rfl rfl (by kernel_rfl) (fun _ _ _ h => h) (Or.inl ⟨by rfl, ?_⟩) hHeld ?_ ?_
        rotate_left
        · rintro w' ⟨s0, s1, s2, s3, s4, s5, s6⟩
          go_simp
          with_reducible rfl
        rotate_left
        · simp only [Act.put, List.setIfInBounds_toArray, List.set_cons_zero, List.set_cons_succ, i64_w, i32_w]
          rfl
        refine pure_ (i := 5) (N := some 21) (v := ?_) (a' := ?_) #[true, true, true, true, true, true, false, true, true, true, false, true, false, false, false] rfl rfl (by kernel_rfl) (fun _ _ _ h => h) (Or.inl ⟨by rfl, ?_⟩) ?_ ?_
        rotate_left
        · intro w'
          go_simp
          with_reducible rfl
        rotate_left
        · simp only [Act.put, List.setIfInBounds_toArray, List.set_cons_zero, List.set_cons_succ, i64_w, i32_w]
          rfl
        refine take_ (i := 6) (N := some 22) (v := ?_) (a' := ?_) #[true, true, true, true, true, true, true, true, true, true, false, true, false, false, false] rfl rfl (by kernel_rfl) (fun _ _ _ h => h) (Or.inl ⟨by rfl, ?_⟩) hHeld ?_ ?_
        rotate_left
        · rintro w' ⟨s0, s1, s2, s3, s4, s5, s6⟩
          go_simp
          with_reducible rfl
        rotate_left
        · simp only [Act.put, List.setIfInBounds_toArray, List.set_cons_zero, List.set_cons_succ, i64_w, i32_w]
          rfl
        refine take_ (i := 10) (N := some 26) (v := ?_) (a' := ?_) #[true, true, true, true, true, true, true, true, true, true, true, true, false, false, false] rfl rfl (by kernel_rfl) (fun _ _ _ h => h) (Or.inl ⟨by rfl, ?_⟩) hHeld ?_ ?_
        rotate_left
        · rintro w' ⟨s0, s1, s2, s3, s4, s5, s6⟩
          go_simp
          with_reducible rfl
        rotate_left
        · simp only [Act.put, List.setIfInBounds_toArray, List.set_cons_zero, List.set_cons_succ, i64_w, i32_w]
          rfl
        refine pure_ (i := 12) (N := some 28) (v := ?_) (a' := ?_) #[true, true, true, true, true, true, true, true, true, true, true, true, true, false, false] rfl rfl (by kernel_rfl) (fun _ _ _ h => h) (Or.inl ⟨by rfl, ?_⟩) ?_ ?_
        rotate_left
        · intro w'
          go_simp
          with_reducible rfl
        rotate_left
        · simp only [Act.put, List.setIfInBounds_toArray, List.set_cons_zero, List.set_cons_succ, i64_w, i32_w]
          rfl
        refine take_ (i := 13) (N := some 29) (v := ?_) (a' := ?_) #[true, true, true, true, true, true, true, true, true, true, true, true, true, true, false] rfl rfl (by kernel_rfl) (fun _ _ _ h => h) (Or.inl ⟨by rfl, ?_⟩) hHeld ?_ ?_
        rotate_left
        · rintro w' ⟨s0, s1, s2, s3, s4, s5, s6⟩
          go_simp
          with_reducible rfl
        rotate_left
        · simp only [Act.put, List.setIfInBounds_toArray, List.set_cons_zero, List.set_cons_succ, i64_w, i32_w]
          rfl
        refine pure_ (i := 14) (N := some 30) (v := ?_) (a' := ?_) #[true, true, true, true, true, true, true, true, true, true, true, true, true, true, true] rfl rfl (by kernel_rfl) (fun _ _ _ h => h) (Or.inl ⟨by rfl, ?_⟩) ?_ ?_
        rotate_left
        · intro w'
          go_simp
          with_reducible rfl
        rotate_left
        · simp only [Act.put, List.setIfInBounds_toArray, List.set_cons_zero, List.set_cons_succ, i64_w, i32_w]
          rfl
        refine done_ (by kernel_rfl) ?_
        obtain ⟨hb_, k2, kx, ky, k5, kqx, kqy⟩ := hHeld
        have HBv := Aside0.mk (below_step HB.out hb_)
        clear hb_
        go_wp2_with fail
        go_roundg kp
        case measure => rw [HKP.out]; exact Nat.lt_succ_self _
        case rel =>
          obtain ⟨h5, h6⟩ := ok_dm HR.out.1 HR.out.2.1 HXR.out.1.1 HXR.out.1.2
          refine ⟨fnD D x, y, rfl, rfl, ⟨h5, .inr HXR.out.2, ?_, by rw [HV.out, if_pos HP.out]⟩, HBv⟩
          have hz := HMZ.out
          unfold mz
          rw [if_neg H12.out.2]
          split
          · omega
          · rename_i h7
            have h8 := h6 h7
            rcases h5 with h5 | h5
            · exact absurd h5 h7
            · have := (HR.out.1.pos_bd h5.1).1
              omega
      · have d3 : decide (posF s.pl x > posF s.pl y) = false := decide_eq_false hp
        have d4 : decide (posF s.pl y < posF s.pl x) = false := d3
        have HP := Aside0.mk hp
        clear hp
        go_wp2_with fail
        refine start_ (n := 15) (S := fun w' => Below wr.heap.size wr w' ∧ w'.cell? ⟨g, 2, none⟩ = some (.slice (some ⟨bP, 0, none⟩) N cP) ∧ w'.cell? ⟨bP, x.toNat, none⟩ = some (.int .i64 (posF s.pl x)) ∧ w'.cell? ⟨bP, y.toNat, none⟩ = some (.int .i64 (posF s.pl y)) ∧ w'.cell? ⟨g, 5, none⟩ = some (.slice (some ⟨bD, 0, none⟩) N cD) ∧ w'.cell? ⟨bD, x.toNat, none⟩ = some (.int .i64 (fnD D x)) ∧ w'.cell? ⟨bD, y.toNat, none⟩ = some (.int .i64 (fnD D y))) (ds := []) #[false, false, false, false, false, false, false, false, false, false, false, false, false, false, false] (by kernel_rfl) rfl rfl ⟨(below_drew (Below.refl _ _)), c2, px, py, c5, qx, qy⟩ (fun hHeld => ?_)
        refine pure_ (i := 0) (N := some 16) (v := ?_) (a' := ?_) #[true, false, false, false, false, false, false, false, false, false, false, false, false, false, false] rfl rfl (by kernel_rfl) (fun _ _ _ h => h) (Or.inl ⟨by rfl, ?_⟩) ?_ ?_
        rotate_left
        · intro w'
          go_simp
          with_reducible rfl
        rotate_left
        · simp only [Act.put, List.setIfInBounds_toArray, List.set_cons_zero, List.set_cons_succ, i64_w, i32_w]
          rfl
        refine pure_ (i := 1) (N := some 17) (v := ?_) (a' := ?_) #[true, true, false, false, false, false, false, false, false, false, false, false, false, false, false] rfl rfl (by kernel_rfl) (fun _ _ _ h => h) (Or.inl ⟨by rfl, ?_⟩) ?_ ?_
        rotate_left
        · intro w'
          go_simp
          with_reducible rfl
        rotate_left
        · simp only [Act.put, List.setIfInBounds_toArray, List.set_cons_zero, List.set_cons_succ, i64_w, i32_w]
          rfl
        refine pure_ (i := 2) (N := some 18) (v := ?_) (a' := ?_) #[true, true, true, false, false, false, false, false, false, false, false, false, false, false, false] rfl rfl (by kernel_rfl) (fun _ _ _ h => h) (Or.inl ⟨by rfl, ?_⟩) ?_ ?_
        rotate_left
        · intro w'
          go_simp
          with_reducible rfl
        rotate_left
        · simp only [Act.put, List.setIfInBounds_toArray, List.set_cons_zero, List.set_cons_succ, i64_w, i32_w]
          rfl
        refine pure_ (i := 4) (N := some 20) (v := ?_) (a' := ?_) #[true, true, true, false, true, false, false, false, false, false, false, false, false, false, false] rfl rfl (by kernel_rfl) (fun _ _ _ h => h) (Or.inl ⟨by rfl, ?_⟩) ?_ ?_
        rotate_left
        · intro w'
          go_simp
          with_reducible rfl
        rotate_left
        · simp only [Act.put, List.setIfInBounds_toArray, List.set_cons_zero, List.set_cons_succ, i64_w, i32_w]
          rfl
        refine pure_ (i := 7) (N := some 23) (v := ?_) (a' := ?_) #[true, true, true, false, true, false, false, true, false, false, false, false, false, false, false] rfl rfl (by kernel_rfl) (fun _ _ _ h => h) (Or.inl ⟨by rfl, ?_⟩) ?_ ?_
        rotate_left
        · intro w'
          go_simp
          with_reducible rfl
        rotate_left
        · simp only [Act.put, List.setIfInBounds_toArray, List.set_cons_zero, List.set_cons_succ, i64_w, i32_w]
          rfl
        refine pure_ (i := 8) (N := some 24) (v := ?_) (a' := ?_) #[true, true, true, false, true, false, false, true, true, false, false, false, false, false, false] rfl rfl (by kernel_rfl) (fun _ _ _ h => h) (Or.inl ⟨by rfl, ?_⟩) ?_ ?_
        rotate_left
        · intro w'
          go_simp
          with_reducible rfl
        rotate_left
        · simp only [Act.put, List.setIfInBounds_toArray, List.set_cons_zero, List.set_cons_succ, i64_w, i32_w]
          rfl
        refine pure_ (i := 9) (N := some 25) (v := ?_) (a' := ?_) #[true, true, true, false, true, false, false, true, true, true, false, false, false, false, false] rfl rfl (by kernel_rfl) (fun _ _ _ h => h) (Or.inl ⟨by rfl, ?_⟩) ?_ ?_
        rotate_left
        · intro w'
          go_simp
          with_reducible rfl
        rotate_left
        · simp only [Act.put, List.setIfInBounds_toArray, List.set_cons_zero, List.set_cons_succ, i64_w, i32_w]
          rfl
        refine pure_ (i := 11) (N := some 27) (v := ?_) (a' := ?_) #[true, true, true, false, true, false, false, true, true, true, false, true, false, false, false] rfl rfl (by kernel_rfl) (fun _ _ _ h => h) (Or.inl ⟨by rfl, ?_⟩) ?_ ?_
        rotate_left
        · intro w'
          go_simp
          with_reducible rfl
        rotate_left
        · simp only [Act.put, List.setIfInBounds_toArray, List.set_cons_zero, List.set_cons_succ, i64_w, i32_w]
          rfl
        refine take_ (i := 3) (N := some 19) (v := ?_) (a' := ?_) #[true, true, true, true, true, false, false, true, true, true, false, true, false, false, false] rfl rfl (by kernel_rfl) (fun _ _ _ h => h) (Or.inl ⟨by rfl, ?_⟩) hHeld ?_ ?_
        rotate_left
        · rintro w' ⟨s0, s1, s2, s3, s4, s5, s6⟩
          go_simp
          with_reducible rfl
        rotate_left
        · simp only [Act.put, List.setIfInBounds_toArray, List.set_cons_zero, List.set_cons_succ, i64_w, i32_w]
          rfl
        refine pure_ (i := 5) (N := some 21) (v := ?_) (a' := ?_) #[true, true, true, true, true, true, false, true, true, true, false, true, false, false, false] rfl rfl (by kernel_rfl) (fun _ _ _ h => h) (Or.inl ⟨by rfl, ?_⟩) ?_ ?_
        rotate_left
        · intro w'
          go_simp
          with_reducible rfl
        rotate_left
        · simp only [Act.put, List.setIfInBounds_toArray, List.set_cons_zero, List.set_cons_succ, i64_w, i32_w]
          rfl
        refine take_ (i := 6) (N := some 22) (v := ?_) (a' := ?_) #[true, true, true, true, true, true, true, true, true, true, false, true, false, false, false] rfl rfl (by kernel_rfl) (fun _ _ _ h => h) (Or.inl ⟨by rfl, ?_⟩) hHeld ?_ ?_
        rotate_left
        · rintro w' ⟨s0, s1, s2, s3, s4, s5, s6⟩
          go_simp
          with_reducible rfl
        rotate_left
        · simp only [Act.put, List.setIfInBounds_toArray, List.set_cons_zero, List.set_cons_succ, i64_w, i32_w]
          rfl
        refine take_ (i := 10) (N := some 26) (v := ?_) (a' := ?_) #[true, true, true, true, true, true, true, true, true, true, true, true, false, false, false] rfl rfl (by kernel_rfl) (fun _ _ _ h => h) (Or.inl ⟨by rfl, ?_⟩) hHeld ?_ ?_
        rotate_left
        · rintro w' ⟨s0, s1, s2, s3, s4, s5, s6⟩
          go_simp
          with_reducible rfl
        rotate_left
        · simp only [Act.put, List.setIfInBounds_toArray, List.set_cons_zero, List.set_cons_succ, i64_w, i32_w]
          rfl
        refine pure_ (i := 12) (N := some 28) (v := ?_) (a' := ?_) #[true, true, true, true, true, true, true, true, true, true, true, true, true, false, false] rfl rfl (by kernel_rfl) (fun _ _ _ h => h) (Or.inl ⟨by rfl, ?_⟩) ?_ ?_
        rotate_left
        · intro w'
          go_simp
          with_reducible rfl
        rotate_left
        · simp only [Act.put, List.setIfInBounds_toArray, List.set_cons_zero, List.set_cons_succ, i64_w, i32_w]
          rfl
        refine take_ (i := 13) (N := some 29) (v := ?_) (a' := ?_) #[true, true, true, true, true, true, true, true, true, true, true, true, true, true, false] rfl rfl (by kernel_rfl) (fun _ _ _ h => h) (Or.inl ⟨by rfl, ?_⟩) hHeld ?_ ?_
        rotate_left
        · rintro w' ⟨s0, s1, s2, s3, s4, s5, s6⟩
          go_simp
          with_reducible rfl
        rotate_left
        · simp only [Act.put, List.setIfInBounds_toArray, List.set_cons_zero, List.set_cons_succ, i64_w, i32_w]
          rfl
        refine pure_ (i := 14) (N := some 30) (v := ?_) (a' := ?_) #[true, true, true, true, true, true, true, true, true, true, true, true, true, true, true] rfl rfl (by kernel_rfl) (fun _ _ _ h => h) (Or.inl ⟨by rfl, ?_⟩) ?_ ?_
        rotate_left
        · intro w'
          go_simp
          with_reducible rfl
        rotate_left
        · simp only [Act.put, List.setIfInBounds_toArray, List.set_cons_zero, List.set_cons_succ, i64_w, i32_w]
          rfl
        refine done_ (by kernel_rfl) ?_
        obtain ⟨hb_, k2, kx, ky, k5, kqx, kqy⟩ := hHeld
        have HBv := Aside0.mk (below_step HB.out hb_)
        clear hb_
        go_wp2_with fail
        go_roundg kp
        case measure => rw [HKP.out]; exact Nat.lt_succ_self _
        case rel =>
          obtain ⟨h5, h6⟩ := ok_dm HR.out.1 HR.out.2.1 HXR.out.2.1 HXR.out.2.2
          refine ⟨x, fnD D y, rfl, rfl, ⟨.inr HXR.out.1, h5, ?_, by rw [HV.out, if_neg (by have := HP.out; omega)]⟩, HBv⟩
          have hz := HMZ.out
          unfold mz
          rw [if_neg H12.out.1]
          split
          · omega
          · rename_i h7
            have h8 := h6 h7
            rcases h5 with h5 | h5
            · exact absurd h5 h7
            · have := (HR.out.1.pos_bd h5.1).1
              have h9 : posF s.pl x < posF s.pl y := by
                rcases Int.lt_or_eq_of_le (show posF s.pl x ≤ posF s.pl y by have := HP.out; omega) with q | q
                · exact q
                · exact absurd (HR.out.1.pos_inj HXR.out.1.1 HXR.out.2.1 q) HXY.out
              omega
end Go.Proofs.Ytoleplbmkdhgeaa.Own
