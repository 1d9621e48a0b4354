/- Package owns: slices.Reverse of an own row. -/
import Derived.Test.YtoleplbmkdhgeaaOwnRq
set_option linter.unusedVariables false
set_option linter.unusedSimpArgs false
namespace Go.Proofs.Ytoleplbmkdhgeaa.Own
open Go.RowKit Go.Proofs.YtoleplbmkdhgeaaW.PrintWords Go.Proofs.YtoleplbmkdhgeaaW.PrintLast Go.Proofs.YtoleplbmkdhgeaaW.PrintMore Go.Proofs.Ytoleplbmkdhgeaa.PN Go.Proofs.Ytoleplbmkdhgeaa.Hnd Go.Lib

/-- The ends are turned, the middle is as it was. -/
def revTo (l : List Int) (i : Nat) : List Int := l.reverse.take i ++ ((l.drop i).take (l.length - 2 * i)) ++ l.reverse.drop (l.length - i)
def swap (l : List Int) (i j : Nat) : List Int := (l.set i (l.getD j 0)).set j (l.getD i 0)
theorem swap_len (l : List Int) (i j : Nat) : (swap l i j).length = l.length := by unfold swap; simp
theorem getD_set (l : List Int) (i k : Nat) (v : Int) (hi : i < l.length) : (l.set i v).getD k 0 = if i = k then v else l.getD k 0 := by
  rw [List.getD_eq_getElem?_getD, List.getElem?_set]
  by_cases e : i = k
  · rw [if_pos e, if_pos e, if_pos hi]; rfl
  · rw [if_neg e, if_neg e, ← List.getD_eq_getElem?_getD]
/-- What is known behind i rounds. -/
def RevI (l m : List Int) (i : Nat) : Prop := m.length = l.length ∧ ∀ k, k < l.length → m.getD k 0 = if k < i ∨ l.length - 1 - k < i then l.getD (l.length - 1 - k) 0 else l.getD k 0
theorem RevI.start (l : List Int) : RevI l l 0 := ⟨rfl, fun k _ => by rw [if_neg (by omega)]⟩
theorem RevI.next {l m : List Int} {i : Nat} (h : RevI l m i) (hi : 2 * i + 1 < l.length) : RevI l (swap m i (l.length - 1 - i)) (i + 1) := by
  obtain ⟨h1, h2⟩ := h
  refine ⟨by rw [swap_len, h1], fun k hk => ?_⟩
  unfold swap
  rw [getD_set _ _ _ _ (by rw [List.length_set]; omega), getD_set _ _ _ _ (by omega)]
  have a1 := h2 i (by omega)
  have a2 := h2 (l.length - 1 - i) (by omega)
  rw [if_neg (by omega)] at a1 a2
  by_cases e1 : l.length - 1 - i = k
  · rw [if_pos e1, a1, if_pos (by omega)]
    congr 1; omega
  · rw [if_neg e1]
    by_cases e2 : i = k
    · rw [if_pos e2, a2, if_pos (by omega)]
      congr 1; omega
    · rw [if_neg e2, h2 k hk]
      by_cases e3 : k < i ∨ l.length - 1 - k < i
      · rw [if_pos e3, if_pos (by omega)]
      · rw [if_neg e3, if_neg (by omega)]
theorem RevI.done {l m : List Int} {i : Nat} (h : RevI l m i) (hi : l.length ≤ 2 * i + 1) : m = l.reverse := by
  obtain ⟨h1, h2⟩ := h
  apply List.ext_getElem
  · rw [h1, List.length_reverse]
  · intro k hk hk2
    have hkl : k < l.length := by rw [← h1]; exact hk
    have a := h2 k hkl
    rw [List.getD_eq_getElem?_getD, List.getElem?_eq_getElem hk] at a
    have a : m[k] = if k < i ∨ l.length - 1 - k < i then l.getD (l.length - 1 - k) 0 else l.getD k 0 := a
    rw [a, List.getElem_reverse]
    by_cases e : k < i ∨ l.length - 1 - k < i
    · rw [if_pos e, List.getD_eq_getElem?_getD, List.getElem?_eq_getElem (by omega)]; rfl
    · rw [if_neg e, List.getD_eq_getElem?_getD, List.getElem?_eq_getElem hkl]
      have : k = l.length - 1 - k := by omega
      show l[k] = _
      congr 1
set_option maxHeartbeats 16000000 in
set_option maxRecDepth 100000 in
theorem reverse_calls (W : World) (B : Nat) (v : Value) (l : List Int) (h : W.ownsRow B 3 1 v l.length (nums .i64 l)) (hz : l.length ≤ 1000000) :
    Calls Try.prog 57 #[v] W fun e w' => e = .returned (.tuple #[]) ∧ w'.ownsRow B 3 1 v l.length (nums .i64 l.reverse) ∧ W.grownBy w' v.ownBlock := by
  obtain ⟨A, c, e, hc⟩ := own_shape h
  subst e
  have HO := Aside0.mk h
  have HZ := Aside0.mk hz
  clear h hz hc
  go_enter Try.func57, Try.ntmps57
  go_wp2_with fail
  go_loopg [2, 3] l.length (fun kq v2 v3 w' => ∃ (i : Nat) (m : List Int), v2 = .int .i64 (i : Int) ∧ v3 = .int .i64 ((l.length : Int) - 1 - (i : Int)) ∧ Aside0 (2 * i ≤ l.length + 1 ∧ l.length - i ≤ kq) ∧ Aside0 (RevI l m i) ∧ Aside0 (w'.ownsRow B 3 1 (.slice A l.length c) l.length (nums .i64 m)) ∧ Aside0 (W.grownBy w' (Value.slice A l.length c).ownBlock))
  case atStart => exact ⟨0, l, rfl, by first | rfl | (congr 1; have := HZ.out; unfold wrap64; omega), ⟨by omega, by omega⟩, ⟨RevI.start l⟩, HO, ⟨⟨rfl, rfl, rfl, Nat.le_refl _, fun _ _ _ => rfl⟩⟩⟩
  case round =>
    obtain ⟨i, m, rfl, rfl, HIQ, HM, HR, HG⟩ := hrel
    by_cases hlt : (i : Int) < (l.length : Int) - 1 - (i : Int)
    · have d0 : decide ((i : Int) < (l.length : Int) - 1 - (i : Int)) = true := decide_eq_true hlt
      have hi2 : 2 * i + 1 < l.length := by omega
      obtain ⟨bR, cR, eR⟩ := own_nth HR.out (by omega)
      obtain ⟨rfl, _⟩ : A = some ⟨bR, 0, none⟩ ∧ c = cR := by
        have h_ := Value.slice.inj eR
        exact ⟨h_.1, h_.2.2⟩
      obtain ⟨j, hj⟩ : ∃ j : Nat, j = l.length - 1 - i := ⟨_, rfl⟩
      have hjI : (l.length : Int) - 1 - (i : Int) = (j : Int) := by omega
      have hlm := HM.out.1
      have ci : wr.cell? ⟨bR, i, none⟩ = some (.int .i64 (m.getD i 0)) := by
        rw [HR.out.cellAt i (by omega)]
        unfold nums
        rw [List.getElem?_map, List.getElem?_eq_getElem (by omega), List.getD_eq_getElem?_getD, List.getElem?_eq_getElem (by omega)]
        rfl
      have cj : wr.cell? ⟨bR, j, none⟩ = some (.int .i64 (m.getD j 0)) := by
        rw [HR.out.cellAt j (by omega)]
        unfold nums
        rw [List.getElem?_map, List.getElem?_eq_getElem (by omega), List.getD_eq_getElem?_getD, List.getElem?_eq_getElem (by omega)]
        rfl
      have fi := HR.out.frozenAt i
      have fj := HR.out.frozenAt j
      have i0 : (0 : Int) ≤ (i : Int) := by omega
      have i1 : (i : Int) < (l.length : Int) := by omega
      have j0 : (0 : Int) ≤ (j : Int) := by omega
      have j1 : (j : Int) < (l.length : Int) := by omega
      have hij : i ≠ j := by omega
      have HIJ : Aside0 (i ≠ j ∧ 2 * i + 1 < l.length ∧ j = l.length - 1 - i) := ⟨hij, hi2, hj⟩
      have HW1 : Aside0 (wrap64 ((i : Int) + 1) = ((i + 1 : Nat) : Int)) := ⟨by have := HZ.out; unfold wrap64; omega⟩
      have HW2 : Aside0 (wrap64 ((j : Int) - 1) = (l.length : Int) - 1 - ((i + 1 : Nat) : Int)) := ⟨by have := HZ.out; unfold wrap64; omega⟩
      rw [hjI] at d0
      rw [hjI]
      have d0b : decide (i < j) = true := decide_eq_true (by omega)
      generalize ea : m.getD i 0 = a at ci
      generalize eb : m.getD j 0 = b at cj
      have HAB := Aside0.mk (And.intro ea eb)
      clear hlt hi2 hj hjI hlm eR hij ea eb
      go_wp2_with fail
      refine start_ (n := 16) (S := fun w' => w'.cell? ⟨bR, i, none⟩ = some (.int .i64 a) ∧ w'.cell? ⟨bR, j, none⟩ = some (.int .i64 b)) (ds := [13, 15]) #[false, false, false, false, false, false, false, false, false, false, false, false, false, false, false, false] (by kernel_rfl) rfl rfl ⟨ci, cj⟩ (fun hHeld => ?_)
      have fi : wr.drew.frozen? ⟨bR, i, none⟩ = false := fi
      have fj : wr.drew.frozen? ⟨bR, j, none⟩ = false := fj
      have HRd : Aside0 (wr.drew.ownsRow B 3 1 (.slice (some ⟨bR, 0, none⟩) l.length c) l.length (nums .i64 m)) := ⟨HR.out⟩
      have HGd : Aside0 (W.grownBy wr.drew (Value.slice (some ⟨bR, 0, none⟩) l.length c).ownBlock) := ⟨⟨HG.out.os, HG.out.tape, HG.out.output, HG.out.size, HG.out.block⟩⟩
      generalize wr.drew = wd at hHeld fi fj HRd HGd ⊢
      refine pure_ (i := 0) (N := some 14) (v := ?_) (a' := ?_) #[true, false, false, false, false, false, false, false, false, false, false, false, false, false, false, false] rfl rfl (by kernel_rfl) (fun _ _ _ h => h) (Or.inl ⟨by rfl, ?_⟩) ?_ ?_
      rotate_left
      · intro w'
        go_simp
        with_reducible rfl
      rotate_left
      · simp only [Act.put, List.setIfInBounds_toArray, List.set_cons_zero, List.set_cons_succ, i64_w, i32_w]
        rfl
      refine pure_ (i := 1) (N := some 15) (v := ?_) (a' := ?_) #[true, true, false, false, false, false, false, false, false, false, false, false, false, false, false, false] rfl rfl (by kernel_rfl) (fun _ _ _ h => h) (Or.inl ⟨by rfl, ?_⟩) ?_ ?_
      rotate_left
      · intro w'
        go_simp
        with_reducible rfl
      rotate_left
      · simp only [Act.put, List.setIfInBounds_toArray, List.set_cons_zero, List.set_cons_succ, i64_w, i32_w]
        rfl
      refine pure_ (i := 2) (N := some 16) (v := ?_) (a' := ?_) #[true, true, true, false, false, false, false, false, false, false, false, false, false, false, false, false] rfl rfl (by kernel_rfl) (fun _ _ _ h => h) (Or.inl ⟨by rfl, ?_⟩) ?_ ?_
      rotate_left
      · intro w'
        go_simp
        with_reducible rfl
      rotate_left
      · simp only [Act.put, List.setIfInBounds_toArray, List.set_cons_zero, List.set_cons_succ, i64_w, i32_w]
        rfl
      refine pure_ (i := 3) (N := some 17) (v := ?_) (a' := ?_) #[true, true, true, true, false, false, false, false, false, false, false, false, false, false, false, false] rfl rfl (by kernel_rfl) (fun _ _ _ h => h) (Or.inl ⟨by rfl, ?_⟩) ?_ ?_
      rotate_left
      · intro w'
        go_simp
        with_reducible rfl
      rotate_left
      · simp only [Act.put, List.setIfInBounds_toArray, List.set_cons_zero, List.set_cons_succ, i64_w, i32_w]
        rfl
      refine pure_ (i := 4) (N := some 18) (v := ?_) (a' := ?_) #[true, true, true, true, true, false, false, false, false, false, false, false, false, false, false, false] rfl rfl (by kernel_rfl) (fun _ _ _ h => h) (Or.inl ⟨by rfl, ?_⟩) ?_ ?_
      rotate_left
      · intro w'
        go_simp
        with_reducible rfl
      rotate_left
      · simp only [Act.put, List.setIfInBounds_toArray, List.set_cons_zero, List.set_cons_succ, i64_w, i32_w]
        rfl
      refine pure_ (i := 5) (N := some 19) (v := ?_) (a' := ?_) #[true, true, true, true, true, true, false, false, false, false, false, false, false, false, false, false] rfl rfl (by kernel_rfl) (fun _ _ _ h => h) (Or.inl ⟨by rfl, ?_⟩) ?_ ?_
      rotate_left
      · intro w'
        go_simp
        with_reducible rfl
      rotate_left
      · simp only [Act.put, List.setIfInBounds_toArray, List.set_cons_zero, List.set_cons_succ, i64_w, i32_w]
        rfl
      refine pure_ (i := 6) (N := some 20) (v := ?_) (a' := ?_) #[true, true, true, true, true, true, true, false, false, false, false, false, false, false, false, false] rfl rfl (by kernel_rfl) (fun _ _ _ h => h) (Or.inl ⟨by rfl, ?_⟩) ?_ ?_
      rotate_left
      · intro w'
        go_simp
        with_reducible rfl
      rotate_left
      · simp only [Act.put, List.setIfInBounds_toArray, List.set_cons_zero, List.set_cons_succ, i64_w, i32_w]
        rfl
      refine pure_ (i := 8) (N := some 22) (v := ?_) (a' := ?_) #[true, true, true, true, true, true, true, false, true, false, false, false, false, false, false, false] rfl rfl (by kernel_rfl) (fun _ _ _ h => h) (Or.inl ⟨by rfl, ?_⟩) ?_ ?_
      rotate_left
      · intro w'
        go_simp
        with_reducible rfl
      rotate_left
      · simp only [Act.put, List.setIfInBounds_toArray, List.set_cons_zero, List.set_cons_succ, i64_w, i32_w]
        rfl
      refine pure_ (i := 9) (N := some 23) (v := ?_) (a' := ?_) #[true, true, true, true, true, true, true, false, true, true, false, false, false, false, false, false] rfl rfl (by kernel_rfl) (fun _ _ _ h => h) (Or.inl ⟨by rfl, ?_⟩) ?_ ?_
      rotate_left
      · intro w'
        go_simp
        with_reducible rfl
      rotate_left
      · simp only [Act.put, List.setIfInBounds_toArray, List.set_cons_zero, List.set_cons_succ, i64_w, i32_w]
        rfl
      refine pure_ (i := 10) (N := some 24) (v := ?_) (a' := ?_) #[true, true, true, true, true, true, true, false, true, true, true, false, false, false, false, false] rfl rfl (by kernel_rfl) (fun _ _ _ h => h) (Or.inl ⟨by rfl, ?_⟩) ?_ ?_
      rotate_left
      · intro w'
        go_simp
        with_reducible rfl
      rotate_left
      · simp only [Act.put, List.setIfInBounds_toArray, List.set_cons_zero, List.set_cons_succ, i64_w, i32_w]
        rfl
      refine take_ (i := 7) (N := some 21) (v := ?_) (a' := ?_) #[true, true, true, true, true, true, true, true, true, true, true, false, false, false, false, false] rfl rfl (by kernel_rfl) (fun _ _ _ h => h) (Or.inl ⟨by rfl, ?_⟩) hHeld ?_ ?_
      rotate_left
      · rintro w' ⟨s0, s1⟩
        go_simp
        with_reducible rfl
      rotate_left
      · simp only [Act.put, List.setIfInBounds_toArray, List.set_cons_zero, List.set_cons_succ, i64_w, i32_w]
        rfl
      refine take_ (i := 11) (N := some 25) (v := ?_) (a' := ?_) #[true, true, true, true, true, true, true, true, true, true, true, true, false, false, false, false] rfl rfl (by kernel_rfl) (fun _ _ _ h => h) (Or.inl ⟨by rfl, ?_⟩) hHeld ?_ ?_
      rotate_left
      · rintro w' ⟨s0, s1⟩
        go_simp
        with_reducible rfl
      rotate_left
      · simp only [Act.put, List.setIfInBounds_toArray, List.set_cons_zero, List.set_cons_succ, i64_w, i32_w]
        rfl
      refine pure_ (i := 12) (N := some 26) (v := ?_) (a' := ?_) #[true, true, true, true, true, true, true, true, true, true, true, true, true, false, false, false] rfl rfl (by kernel_rfl) (fun _ _ _ h => h) (Or.inl ⟨by rfl, ?_⟩) ?_ ?_
      rotate_left
      · intro w'
        go_simp
        with_reducible rfl
      rotate_left
      · simp only [Act.put, List.setIfInBounds_toArray, List.set_cons_zero, List.set_cons_succ, i64_w, i32_w]
        rfl
      refine last_ (i := 13) (N := none) #[true, true, true, true, true, true, true, true, true, true, true, true, true, true, false, false] rfl rfl (by kernel_rfl) (by decide) (fun K hK => ?_)
      have ci0 := hHeld.1
      have cj0 := hHeld.2
      refine skip_ (w1 := ?_) (by rfl) rfl ?_ ?_
      rotate_left
      · go_simp
        rfl
      refine hK.out _ _ ?_
      clear hK K
      refine pure_ (i := 14) (N := some 27) (v := ?_) (a' := ?_) #[true, true, true, true, true, true, true, true, true, true, true, true, true, true, true, false] rfl rfl (by kernel_rfl) (fun _ _ _ h => h) (Or.inl ⟨by rfl, ?_⟩) ?_ ?_
      rotate_left
      · intro w'
        go_simp
        with_reducible rfl
      rotate_left
      · simp only [Act.put, List.setIfInBounds_toArray, List.set_cons_zero, List.set_cons_succ, i64_w, i32_w]
        rfl
      refine last_ (i := 15) (N := none) #[true, true, true, true, true, true, true, true, true, true, true, true, true, true, true, true] rfl rfl (by kernel_rfl) (by decide) (fun K hK => ?_)
      have cj1 : (wd.setCell ⟨bR, i, none⟩ (.int .i64 b)).cell? ⟨bR, j, none⟩ = some (.int .i64 b) := (World.cell?_setCell_other wd _ _ _ (by intro e; exact HIJ.out.1 (by simpa using e))).trans cj0
      have fj1 : (wd.setCell ⟨bR, i, none⟩ (.int .i64 b)).frozen? ⟨bR, j, none⟩ = false := (World.frozen?_setCell _ _ _ _).trans fj
      refine skip_ (w1 := ?_) (by rfl) rfl ?_ ?_
      rotate_left
      · go_simp
        rfl
      refine hK.out _ _ ?_
      clear hK K
      refine done_ (by kernel_rfl) ?_
      have h1_ := HRd.out.stored i (.int .i64 b)
      have h2_ := h1_.1.stored j (.int .i64 a)
      have HR2 : Aside0 (((wd.setCell ⟨bR, i, none⟩ (.int .i64 b)).setCell ⟨bR, j, none⟩ (.int .i64 a)).ownsRow B 3 1 (.slice (some ⟨bR, 0, none⟩) l.length c) l.length (nums .i64 (swap m i j))) := ⟨by
        have h_ := h2_.1
        unfold swap nums
        rw [HAB.out.1, HAB.out.2, List.map_set, List.map_set]
        exact h_⟩
      have HG2 := Aside0.mk ((HGd.out.trans h1_.2).trans h2_.2)
      clear h1_ h2_
      generalize (wd.setCell ⟨bR, i, none⟩ (.int .i64 b)).setCell ⟨bR, j, none⟩ (.int .i64 a) = w9 at HR2 HG2 ⊢
      go_wp2_with fail
      go_roundg (l.length - (i + 1))
      case measure => have := HIQ.out; have := HIJ.out; omega
      case rel =>
        refine ⟨i + 1, swap m i j, by first | rfl | rw [HW1.out], by first | rfl | rw [HW2.out], ⟨by have := HIJ.out; omega, Nat.le_refl _⟩, ⟨?_⟩, HR2, HG2⟩
        rw [HIJ.out.2.2]
        exact HM.out.next HIJ.out.2.1
    · have d0 : decide ((i : Int) < (l.length : Int) - 1 - (i : Int)) = false := decide_eq_false hlt
      have HD : Aside0 (m = l.reverse) := ⟨HM.out.done (by omega)⟩
      clear hlt
      go_wp2_with fail
      go_end0
      exact ⟨rfl, by rw [← HD.out]; exact HR.out, HG.out⟩
end Go.Proofs.Ytoleplbmkdhgeaa.Own
