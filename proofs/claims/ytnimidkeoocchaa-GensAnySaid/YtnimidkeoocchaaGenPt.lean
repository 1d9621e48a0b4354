/- Package gens: set walked. -/
import Derived.Test.YtnimidkeoocchaaGenCo
set_option linter.unusedVariables false
set_option linter.unusedSimpArgs false
namespace Go.Proofs.Ytnimidkeoocchaa.Gen
open Go.RowKit Go.Proofs.YtnimidkeoocchaaW.PrintWords Go.Proofs.YtnimidkeoocchaaW.PrintLast Go.Proofs.YtnimidkeoocchaaW.PrintMore Go.Proofs.Ytnimidkeoocchaa.PG Go.Proofs.Ytnimidkeoocchaa.Hnd Go.Proofs.Ytnimidkeoocchaa.Rch

def nsOf (a b : Int) : List Int := if b = -1 then [a] else [a, b]
def remL (l : List Th) (rm : Int → Bool) (a b : Int) : Int → Bool := if ((thAt l a.toNat).f1 == 1) = true ∧ youngB l b = true then (fun z => z == a || rm z) else rm
def setL (l : List Th) (rm : Int → Bool) (a b n : Int) : List Th × (Int → Bool) × Int :=
  if namedE l (nsOf a b) = 0 then (if n < 0 ∨ ((thAt l a.toNat).f0.length : Int) ≤ n then (l, rm, 1) else (putL l a.toNat n.toNat b, remL l rm a b, 0)) else (l, rm, namedE l (nsOf a b))
theorem C_two1 {W : World} {b : Nat} {x y : Int} {t : Nat} (hb : W.heap[b]? = some (.cells #[.int .i64 x, .int .i64 y] t (0, 0))) : (Kd.int .i64).C W (some ⟨b, 0, none⟩) 1 [x] := by
  refine ⟨rfl, by omega, fun _ => ⟨_, rfl, fun j p hj => ?_⟩⟩
  rcases j with _ | j
  · simp only [List.getElem?_cons_zero, Option.some.injEq] at hj
    subst hj
    refine ⟨[.int .i64 x], rfl, rfl, fun i u hu => ?_⟩
    rcases i with _ | i
    · simp at hu; subst hu; rw [add_plain]; exact (blk_cell hb 0).trans rfl
    · simp at hu
  · simp at hj
theorem C_two2 {W : World} {b : Nat} {x y : Int} {t : Nat} (hb : W.heap[b]? = some (.cells #[.int .i64 x, .int .i64 y] t (0, 0))) : (Kd.int .i64).C W (some ⟨b, 0, none⟩) 2 [x, y] := by
  refine ⟨rfl, by omega, fun _ => ⟨_, rfl, fun j p hj => ?_⟩⟩
  rcases j with _ | _ | j
  · simp only [List.getElem?_cons_zero, Option.some.injEq] at hj
    subst hj
    refine ⟨[.int .i64 x], rfl, rfl, fun i u hu => ?_⟩
    rcases i with _ | i
    · simp at hu; subst hu; rw [add_plain]; exact (blk_cell hb 0).trans rfl
    · simp at hu
  · simp at hj
    subst hj
    refine ⟨[.int .i64 y], rfl, rfl, fun i u hu => ?_⟩
    rcases i with _ | i
    · simp at hu; subst hu; rw [add_plain]; exact (blk_cell hb 1).trans rfl
    · simp at hu
  · simp at hj
theorem putL_len (l : List Th) (i j : Nat) (x : Int) : (putL l i j x).length = l.length := by simp [putL]
theorem putL_f1 {l : List Th} {i j : Nat} {x : Int} (n : Nat) : (thAt (putL l i j x) n).f1 = (thAt l n).f1 := by
  by_cases hn : n < l.length
  · unfold putL
    rw [thAt_set hn]
    split
    · rename_i e; subst e; rfl
    · rfl
  · unfold thAt putL
    rw [List.getD_eq_getElem?_getD, List.getD_eq_getElem?_getD, List.getElem?_eq_none (by simpa using hn), List.getElem?_eq_none (by omega)]
theorem youngB_putL {l : List Th} {i j : Nat} {x b : Int} : youngB (putL l i j x) b = youngB l b := by unfold youngB; rw [putL_f1]
set_option maxHeartbeats 16000000 in
set_option maxRecDepth 100000 in
theorem set_calls (w : World) {ok : Nat → Prop} {g : Nat} {nur : Int} {mb cn : Nat} {rm : Int → Bool} {v : Value} {ps : List Value} {l : List Th} (h : GS w ok g nur mb cn rm v ps l) (ho : OkL l) (hok : ∀ k, ok k → k < w.heap.size) (hcn : cn ≤ 100000) (d a b n : Int) :
    Calls Try.prog 39 #[.pointer (some ⟨g, 0, none⟩), .agg #[.int .i64 d, .int .i64 a, .int .i64 b, .int .i64 n]] w fun e w' => e = .returned (.int .i64 (setL l rm a b n).2.2) ∧ (∃ cn', cn' ≤ cn + 1 ∧ GS w' ok g nur mb cn' (setL l rm a b n).2.1 v ps (setL l rm a b n).1) ∧ Fr ok w w' := by
  have HM := Aside0.mk h
  have HO := Aside0.mk ho
  have HK := Aside0.mk hok
  have HCN := Aside0.mk hcn
  have hmt := Try.underlying59
  obtain ⟨W0, hW0⟩ : ∃ W0, W0 = (w.alloc (Obj.cells #[.int .i64 d, .int .i64 a, .int .i64 b, .int .i64 n] 31)).alloc (Obj.cells #[.int .i64 a, .int .i64 b] 3) := ⟨_, rfl⟩
  have hb0 : Below w.heap.size w W0 := by rw [hW0]; exact below_alloc (below_alloc (Below.refl _ _) _) _
  have HD0 : Aside0 (W0.heap[w.heap.size]? = some (.cells #[.int .i64 d, .int .i64 a, .int .i64 b, .int .i64 n] 31 (0, 0))) := ⟨by rw [hW0]; exact blk_alloc (blk_new w _) _⟩
  have HN0 : Aside0 (W0.heap[w.heap.size + 1]? = some (.cells #[.int .i64 a, .int .i64 b] 3 (0, 0))) := ⟨by rw [hW0]; have h_ := blk_new (w.alloc (Obj.cells #[.int .i64 d, .int .i64 a, .int .i64 b, .int .i64 n] 31)) (Obj.cells #[.int .i64 a, .int .i64 b] 3); rwa [blk_size] at h_⟩
  have HB0 := Aside0.mk hb0
  have HCALL : Aside0 (Calls Try.prog 66 #[.pointer (some ⟨g, 0, none⟩), .slice (some ⟨w.heap.size + 1, 0, none⟩) (nsOf a b).length 2] W0 fun e w' => e = .returned (.int .i64 (namedE l (nsOf a b))) ∧ Below W0.heap.size W0 w') := ⟨by
    refine named_calls W0 (h.below hb0) ho _ 2 (nsOf a b) ?_ ?_ ?_
    · unfold nsOf; split
      · exact C_two1 HN0.out
      · exact C_two2 HN0.out
    · unfold nsOf; split <;> simp
    · unfold nsOf; split <;> simp⟩
  clear h ho hok hb0 hcn
  have HNS : Aside0 ((b == -1) = true ∧ (nsOf a b).length = 1 ∨ (b == -1) = false ∧ (nsOf a b).length = 2) := ⟨by
    unfold nsOf
    by_cases hb : b = -1
    · left; rw [if_pos hb]; exact ⟨by simpa using hb, rfl⟩
    · right; rw [if_neg hb]; exact ⟨by simpa using hb, rfl⟩⟩
  go_enter Try.func39, Try.ntmps39
  rcases HNS.out with ⟨hbm, hln⟩ | ⟨hbm, hln⟩
  · rw [hln] at HCALL
    go_wp2_with fail
    rw [← hW0]
    refine HCALL.out.mono ?_
    rintro e w1 ⟨rfl, hb1⟩
    have HB1 := Aside0.mk (HB0.out.trans (below_cut hb1 HB0.out.size))
    have HM1 := Aside0.mk (HM.out.below HB1.out)
    have HD1 := Aside0.mk (blk_below HD0.out hb1)
    clear hb1 hW0 hln hbm HNS
    by_cases he : namedE l (nsOf a b) = 0
    · have ha := namedE_in he a (by unfold nsOf; split <;> simp)
      obtain ⟨m, rfl⟩ : ∃ m : Nat, a = m := ⟨a.toNat, by omega⟩
      have hm : m < l.length := by omega
      have HML := Aside0.mk hm
      have HE0 := Aside0.mk he
      have hbl : b < (l.length : Int) := by
        by_cases hb : b = -1
        · omega
        · exact (namedE_in he b (by unfold nsOf; rw [if_neg hb]; simp)).2
      have HBL := Aside0.mk hbl
      rw [he]
      obtain ⟨q, cap, rfl⟩ := HM.out.vform (by omega)
      obtain ⟨A, c, x0, x1, x2, hp⟩ := HM1.out.at' m hm
      have HP := Aside0.mk hp
      have d2 := HM1.out.c1
      have da : w1.cell? ⟨w.heap.size, 1, none⟩ = some (.int .i64 (m : Int)) := (blk_cell HD1.out 1).trans rfl
      have hi0 : (0 : Int) ≤ (m : Int) := by omega
      have hi1 : (m : Int) < (l.length : Int) := by omega
      have HNL : Aside0 ((thAt l m).f0.length ≤ 1000) := ⟨by rw [thAt_eq hm]; exact (HO.out.pl _ (List.getElem_mem hm)).1⟩
      obtain ⟨fs, hfs⟩ : ∃ fs, fs = (thAt l m).f0 := ⟨_, rfl⟩
      obtain ⟨y1, hy1⟩ : ∃ y1, y1 = (thAt l m).f1 := ⟨_, rfl⟩
      obtain ⟨y2, hy2⟩ : ∃ y2, y2 = (thAt l m).f2 := ⟨_, rfl⟩
      rw [← hfs] at x0 HP HNL
      rw [← hy1] at x1
      rw [← hy2] at x2
      have HFS := Aside0.mk hfs
      have HY1 := Aside0.mk hy1
      have HIY : Aside0 (I64 (m : Int)) := ⟨by have := HML.out; have := HO.out.len; unfold I64; omega⟩
      clear he ha hp hfs hy1 hy2 hbl hm
      go_wp2_with fail
      refine start_ (n := 10) (S := fun w' => Below w1.heap.size w1 w' ∧ w'.cell? ⟨g, 1, none⟩ = some (.slice (some ⟨q, 0, none⟩) l.length cap) ∧ w'.cell? ⟨w.heap.size, 1, none⟩ = some (.int .i64 (m : Int)) ∧ w'.cell? ⟨q, m * 3, none⟩ = some (.slice A fs.length c) ∧ w'.cell? ⟨q, m * 3 + 1, none⟩ = some (.int .i64 y1) ∧ w'.cell? ⟨q, m * 3 + 2, none⟩ = some (.bool y2)) (ds := [9]) #[false, false, false, false, false, false, false, false, false, false] (by kernel_rfl) rfl rfl ⟨(below_drew (Below.refl _ _)), d2, da, x0, x1, x2⟩ (fun hHeld => ?_)
      refine pure_ (i := 0) (N := some 24) (v := ?_) (a' := ?_) #[true, false, false, false, false, false, false, false, false, false] rfl rfl (by kernel_rfl) (fun _ _ _ h => h) (Or.inl ⟨by rfl, ?_⟩) ?_ ?_
      rotate_left
      · intro w'
        go_simp
        with_reducible rfl
      rotate_left
      · simp only [Act.put, List.setIfInBounds_toArray, List.set_cons_zero, List.set_cons_succ, i64_w, i32_w]
        rfl
      refine pure_ (i := 1) (N := some 25) (v := ?_) (a' := ?_) #[true, true, false, false, false, false, false, false, false, false] rfl rfl (by kernel_rfl) (fun _ _ _ h => h) (Or.inl ⟨by rfl, ?_⟩) ?_ ?_
      rotate_left
      · intro w'
        go_simp
        with_reducible rfl
      rotate_left
      · simp only [Act.put, List.setIfInBounds_toArray, List.set_cons_zero, List.set_cons_succ, i64_w, i32_w]
        rfl
      refine pure_ (i := 2) (N := some 26) (v := ?_) (a' := ?_) #[true, true, true, false, false, false, false, false, false, false] rfl rfl (by kernel_rfl) (fun _ _ _ h => h) (Or.inl ⟨by rfl, ?_⟩) ?_ ?_
      rotate_left
      · intro w'
        go_simp
        with_reducible rfl
      rotate_left
      · simp only [Act.put, List.setIfInBounds_toArray, List.set_cons_zero, List.set_cons_succ, i64_w, i32_w]
        rfl
      refine pure_ (i := 4) (N := some 28) (v := ?_) (a' := ?_) #[true, true, true, false, true, false, false, false, false, false] rfl rfl (by kernel_rfl) (fun _ _ _ h => h) (Or.inl ⟨by rfl, ?_⟩) ?_ ?_
      rotate_left
      · intro w'
        go_simp
        with_reducible rfl
      rotate_left
      · simp only [Act.put, List.setIfInBounds_toArray, List.set_cons_zero, List.set_cons_succ, i64_w, i32_w]
        rfl
      refine take_ (i := 3) (N := some 27) (v := ?_) (a' := ?_) #[true, true, true, true, true, false, false, false, false, false] rfl rfl (by kernel_rfl) (fun _ _ _ h => h) (Or.inl ⟨by rfl, ?_⟩) hHeld ?_ ?_
      rotate_left
      · rintro w' ⟨s0, s1, s2, s3, s4, s5⟩
        go_simp
        with_reducible rfl
      rotate_left
      · simp only [Act.put, List.setIfInBounds_toArray, List.set_cons_zero, List.set_cons_succ, i64_w, i32_w]
        rfl
      refine take_ (i := 5) (N := some 29) (v := ?_) (a' := ?_) #[true, true, true, true, true, true, false, false, false, false] rfl rfl (by kernel_rfl) (fun _ _ _ h => h) (Or.inl ⟨by rfl, ?_⟩) hHeld ?_ ?_
      rotate_left
      · rintro w' ⟨s0, s1, s2, s3, s4, s5⟩
        go_simp
        with_reducible rfl
      rotate_left
      · simp only [Act.put, List.setIfInBounds_toArray, List.set_cons_zero, List.set_cons_succ, i64_w, i32_w]
        rfl
      refine pure_ (i := 6) (N := some 30) (v := ?_) (a' := ?_) #[true, true, true, true, true, true, true, false, false, false] rfl rfl (by kernel_rfl) (fun _ _ _ h => h) (Or.inl ⟨by rfl, ?_⟩) ?_ ?_
      rotate_left
      · intro w'
        go_simp
        with_reducible rfl
      rotate_left
      · simp only [Act.put, List.setIfInBounds_toArray, List.set_cons_zero, List.set_cons_succ, i64_w, i32_w]
        rfl
      refine take_ (i := 7) (N := some 31) (v := ?_) (a' := ?_) #[true, true, true, true, true, true, true, true, false, false] rfl rfl (by kernel_rfl) (fun _ _ _ h => h) (Or.inl ⟨by rfl, ?_⟩) hHeld ?_ ?_
      rotate_left
      · rintro w' ⟨s0, s1, s2, s3, s4, s5⟩
        go_simp
        with_reducible rfl
      rotate_left
      · simp only [Act.put, List.setIfInBounds_toArray, List.set_cons_zero, List.set_cons_succ, i64_w, i32_w]
        rfl
      refine one_ (i := 8) (N := some 7) #[true, true, true, true, true, true, true, true, true, false] rfl rfl (by kernel_rfl) (by decide) (fun K hK => ?_)
      have HW6 := Aside0.mk hHeld.1
      refine value_ (w1 := ?_) (v := ?_) (by rfl) rfl ?_ ?_
      rotate_left 2
      · go_simp
        constructor
        · rfl
        · rfl
      refine hK.out _ _ ⟨hHeld.1.alloc (Nat.le_trans hHeld.1.size (Nat.le_refl _)) _, pw_cell_below (below_alloc (Below.refl _ _) _) hHeld.2.1, pw_cell_below (below_alloc (Below.refl _ _) _) hHeld.2.2.1, pw_cell_below (below_alloc (Below.refl _ _) _) hHeld.2.2.2.1, pw_cell_below (below_alloc (Below.refl _ _) _) hHeld.2.2.2.2.1, pw_cell_below (below_alloc (Below.refl _ _) _) hHeld.2.2.2.2.2⟩ (fun hHeld => ?_)
      clear hK K
      refine norm_ (a' := ?_) ?_ ?_
      rotate_left
      · show Act.put _ (some 7) _ = _
        simp only [Act.put, List.setIfInBounds_toArray, List.set_cons_zero, List.set_cons_succ, i64_w, i32_w]
        rfl
      refine last_ (i := 9) (N := none) #[true, true, true, true, true, true, true, true, true, true] rfl rfl (by kernel_rfl) (by decide) (fun K hK => ?_)
      refine skip_ (w1 := ?_) (by rfl) rfl ?_ ?_
      rotate_left
      · go_simp
        rfl
      refine hK.out _ _ ?_
      clear hK K
      refine done_ (by kernel_rfl) ?_
      generalize hW2 : World.drew (World.alloc _ _) = W2
      have hX2 : W2.heap[w1.heap.size]? = some (.cells #[.slice A fs.length c, .int .i64 y1, .bool y2] 69 (0, 0)) := by rw [← hW2]; exact blk_drew (blk_new w1 _)
      have hb2 : Below w1.heap.size w1 W2 := by rw [← hW2]; exact below_drew (below_alloc (Below.refl _ _) _)
      have HX2 := Aside0.mk hX2
      have HB2 : Aside0 (Below w.heap.size w W2) := ⟨below_step HB1.out hb2⟩
      have HM2 := Aside0.mk (HM1.out.below hb2)
      have HD2 := Aside0.mk (blk_below HD1.out hb2)
      have dn : W2.cell? ⟨w.heap.size, 3, none⟩ = some (.int .i64 n) := (blk_cell HD2.out 3).trans rfl
      have db : W2.cell? ⟨w.heap.size, 2, none⟩ = some (.int .i64 b) := (blk_cell HD2.out 2).trans rfl
      have dx : W2.cell? ⟨w1.heap.size, 0, none⟩ = some (.slice A fs.length c) := (blk_cell HX2.out 0).trans rfl
      have dy : W2.cell? ⟨w1.heap.size, 1, none⟩ = some (.int .i64 y1) := (blk_cell HX2.out 1).trans rfl
      have dd : W2.cell? ⟨w.heap.size, 1, none⟩ = some (.int .i64 (m : Int)) := (blk_cell HD2.out 1).trans rfl
      have HWS : Aside0 (∀ k, ok k → k ≠ w.heap.size) := ⟨fun k hk e => by have := HK.out k hk; omega⟩
      have HWS2 : Aside0 (∀ k, ok k → k ≠ w1.heap.size) := ⟨fun k hk e => by have := HK.out k hk; have := HB1.out.size; omega⟩
      clear hW2 hX2 hb2 x0 x1 x2 d2 da
      by_cases hn0 : n < 0
      · have hd0 : decide (n < 0) = true := decide_eq_true hn0
        have HE : Aside0 (setL l rm m b n = (l, rm, 1)) := ⟨by unfold setL; rw [if_pos HE0.out, if_pos (.inl hn0)]⟩
        clear hn0
        go_wp2_with fail
        go_ret
        rw [HE.out]
        exact ⟨rfl, ⟨cn, by omega, HM2.out⟩, Fr.of_below HB2.out⟩
      · have hd0 : decide (n < 0) = false := decide_eq_false hn0
        by_cases hn1 : (fs.length : Int) ≤ n
        · have hd1 : decide ((fs.length : Int) ≤ n) = true := decide_eq_true hn1
          have HE : Aside0 (setL l rm m b n = (l, rm, 1)) := ⟨by unfold setL; rw [if_pos HE0.out, if_pos (.inr (by rw [Int.toNat_natCast, ← HFS.out]; exact hn1))]⟩
          clear hn0 hn1
          go_wp2_with fail
          go_ret
          rw [HE.out]
          exact ⟨rfl, ⟨cn, by omega, HM2.out⟩, Fr.of_below HB2.out⟩
        · have hd1 : decide ((fs.length : Int) ≤ n) = false := decide_eq_false hn1
          obtain ⟨j, rfl⟩ : ∃ j : Nat, n = j := ⟨n.toNat, by omega⟩
          have hj : j < fs.length := by omega
          have HE : Aside0 (setL l rm m b j = (putL l m j b, remL l rm m b, 0)) := ⟨by unfold setL; rw [if_pos HE0.out, if_neg (by rw [Int.toNat_natCast, ← HFS.out]; omega), Int.toNat_natCast, Int.toNat_natCast]⟩
          have hC := HM2.out.atC HML.out HP.out HFS.out.symm
          obtain ⟨pb, eA, _⟩ := placeForm (HM2.out.pl m HML.out) (A := A) (n := fs.length) (c := c) (by have h_ := HP.out; rw [List.getElem?_eq_getElem (by have := HM2.out.len; have := HML.out; omega)] at h_; exact Option.some.inj h_) (by rw [← thAt_eq HML.out, ← HFS.out]; omega)
          subst eA
          obtain ⟨ad, e_, hx⟩ := Kd.at_int hC (j : Int) (by omega) (by omega)
          injection e_ with e_
          subst e_
          rw [Int.toNat_natCast, rdI hj, add_plain] at hx
          have hz3 : W2.frozen? ⟨pb, j, none⟩ = false := by
            have hr := HM2.out.pl m HML.out
            have h_ := HP.out
            rw [List.getElem?_eq_getElem (by have := HM2.out.len; have := HML.out; omega)] at h_
            unfold placeRow at hr
            rw [Option.some.inj h_, ← thAt_eq HML.out, ← HFS.out] at hr
            exact World.ownsRow.frozenAt hr j
          have hj0 : (0 : Int) ≤ (j : Int) := by omega
          have hj1 : (j : Int) < (fs.length : Int) := by omega
          have HPOK : Aside0 (ok pb) := ⟨HM2.out.pok _ (List.mem_of_getElem? HP.out) pb rfl⟩
          have HPUT := Aside0.mk (HM2.out.putL m HML.out HP.out (by rw [HFS.out]) j b)
          have HF3 : Aside0 (Fr ok W2 (W2.setCell ⟨pb, j, none⟩ (.int .i64 b))) := ⟨(Fr.refl ok W2).set (.inl HPOK.out) _⟩
          have HF4 : Aside0 (Fr ok w (W2.setCell ⟨pb, j, none⟩ (.int .i64 b))) := ⟨(Fr.of_below HB2.out).trans HF3.out⟩
          have ey := HF3.out.cell dy (fun h_ => HWS2.out _ h_ rfl)
          have eb := HF3.out.cell db (fun h_ => HWS.out _ h_ rfl)
          have ed := HF3.out.cell dd (fun h_ => HWS.out _ h_ rfl)
          have ec := HPUT.out.c2
          have HYC := Aside0.mk (isYoung_calls _ b HPUT.out (by rw [putL_len]; exact HBL.out))
          rw [youngB_putL] at HYC
          generalize fs[j] = y at hx
          obtain ⟨W3, hW3⟩ : ∃ W3, W3 = W2.setCell ⟨pb, j, none⟩ (.int .i64 b) := ⟨_, rfl⟩
          have HW3 := Aside0.mk hW3.symm
          cases hy : (y1 == 1) with
          | false =>
            have HRM : Aside0 (remL l rm m b = rm) := ⟨by unfold remL; rw [Int.toNat_natCast, ← HY1.out, hy, if_neg (by simp)]⟩
            clear hn0 hn1 hC hj hW3
            go_wp2_with fail
            go_ret
            rw [HE.out, HRM.out]
            exact ⟨rfl, ⟨cn, by omega, HPUT.out⟩, HF4.out⟩
          | true =>
            cases hq : youngB l b with
            | false =>
              rw [hq] at HYC
              have HRM : Aside0 (remL l rm m b = rm) := ⟨by unfold remL; rw [hq, if_neg (by simp)]⟩
              clear hn0 hn1 hC hj hW3 hq
              go_wp2_with fail
              refine HYC.out.mono ?_
              rintro e w5 ⟨rfl, hb5⟩
              go_wp2_with fail
              go_ret
              rw [HE.out, HRM.out]
              exact ⟨rfl, ⟨cn, by omega, HPUT.out.below hb5⟩, HF4.out.below hb5⟩
            | true =>
              rw [hq] at HYC
              have HRM : Aside0 (remL l rm m b = (fun z => z == (m : Int) || rm z)) := ⟨by unfold remL; rw [Int.toNat_natCast, ← HY1.out, hy, hq, if_pos ⟨rfl, rfl⟩]⟩
              clear hn0 hn1 hC hj hW3 hq
              go_wp2_with fail
              refine HYC.out.mono ?_
              rintro e w5 ⟨rfl, hb5⟩
              have HB5 := Aside0.mk hb5
              have HG5 := Aside0.mk (HPUT.out.below hb5)
              have HF5 := Aside0.mk (HF4.out.below hb5)
              have fd := pw_cell_below hb5 ed
              have fc := HG5.out.c2
              clear hb5 ey eb ed ec hx dn db dx dy dd hz3
              go_wp2_with fail
              refine start_ (n := 8) (S := fun w' => Below w5.heap.size w5 w' ∧ w'.cell? ⟨g, 2, none⟩ = some (.map (some mb)) ∧ w'.cell? ⟨w.heap.size, 1, none⟩ = some (.int .i64 (m : Int))) (ds := [7]) #[false, false, false, false, false, false, false, false] (by kernel_rfl) rfl rfl ⟨(below_drew (Below.refl _ _)), fc, fd⟩ (fun hHeld => ?_)
              refine pure_ (i := 0) (N := some 59) (v := ?_) (a' := ?_) #[true, false, false, false, false, false, false, false] rfl rfl (by kernel_rfl) (fun _ _ _ h => h) (Or.inl ⟨by rfl, ?_⟩) ?_ ?_
              rotate_left
              · intro w'
                go_simp
                with_reducible rfl
              rotate_left
              · simp only [Act.put, List.setIfInBounds_toArray, List.set_cons_zero, List.set_cons_succ, i64_w, i32_w]
                rfl
              refine pure_ (i := 1) (N := some 60) (v := ?_) (a' := ?_) #[true, true, false, false, false, false, false, false] rfl rfl (by kernel_rfl) (fun _ _ _ h => h) (Or.inl ⟨by rfl, ?_⟩) ?_ ?_
              rotate_left
              · intro w'
                go_simp
                with_reducible rfl
              rotate_left
              · simp only [Act.put, List.setIfInBounds_toArray, List.set_cons_zero, List.set_cons_succ, i64_w, i32_w]
                rfl
              refine pure_ (i := 2) (N := some 61) (v := ?_) (a' := ?_) #[true, true, true, false, false, false, false, false] rfl rfl (by kernel_rfl) (fun _ _ _ h => h) (Or.inl ⟨by rfl, ?_⟩) ?_ ?_
              rotate_left
              · intro w'
                go_simp
                with_reducible rfl
              rotate_left
              · simp only [Act.put, List.setIfInBounds_toArray, List.set_cons_zero, List.set_cons_succ, i64_w, i32_w]
                rfl
              refine pure_ (i := 4) (N := some 63) (v := ?_) (a' := ?_) #[true, true, true, false, true, false, false, false] rfl rfl (by kernel_rfl) (fun _ _ _ h => h) (Or.inl ⟨by rfl, ?_⟩) ?_ ?_
              rotate_left
              · intro w'
                go_simp
                with_reducible rfl
              rotate_left
              · simp only [Act.put, List.setIfInBounds_toArray, List.set_cons_zero, List.set_cons_succ, i64_w, i32_w]
                rfl
              refine pure_ (i := 6) (N := some 65) (v := ?_) (a' := ?_) #[true, true, true, false, true, false, true, false] rfl rfl (by kernel_rfl) (fun _ _ _ h => h) (Or.inl ⟨by rfl, ?_⟩) ?_ ?_
              rotate_left
              · intro w'
                go_simp
                with_reducible rfl
              rotate_left
              · simp only [Act.put, List.setIfInBounds_toArray, List.set_cons_zero, List.set_cons_succ, i64_w, i32_w]
                rfl
              refine take_ (i := 3) (N := some 62) (v := ?_) (a' := ?_) #[true, true, true, true, true, false, true, false] rfl rfl (by kernel_rfl) (fun _ _ _ h => h) (Or.inl ⟨by rfl, ?_⟩) hHeld ?_ ?_
              rotate_left
              · rintro w' ⟨s0, s1, s2⟩
                go_simp
                with_reducible rfl
              rotate_left
              · simp only [Act.put, List.setIfInBounds_toArray, List.set_cons_zero, List.set_cons_succ, i64_w, i32_w]
                rfl
              refine take_ (i := 5) (N := some 64) (v := ?_) (a' := ?_) #[true, true, true, true, true, true, true, false] rfl rfl (by kernel_rfl) (fun _ _ _ h => h) (Or.inl ⟨by rfl, ?_⟩) hHeld ?_ ?_
              rotate_left
              · rintro w' ⟨s0, s1, s2⟩
                go_simp
                with_reducible rfl
              rotate_left
              · simp only [Act.put, List.setIfInBounds_toArray, List.set_cons_zero, List.set_cons_succ, i64_w, i32_w]
                rfl
              refine last_ (i := 7) (N := none) #[true, true, true, true, true, true, true, true] rfl rfl (by kernel_rfl) (by decide) (fun K hK => ?_)
              have HW6 := Aside0.mk hHeld.1
              refine step_put_set (by rfl) (.tmp 62) (.tmp 64) (.tmp 65) rfl Try.underlying3 hmt (HG5.out.below HW6.out).set (by have h_ := HCN.out; unfold maxLen; omega) rfl (m : Int) rfl HIY.out rfl ?_
              intro w7 hs7 hg7
              have HS7 := Aside0.mk hs7
              have HG7 := Aside0.mk hg7
              clear hs7 hg7
              refine hK.out _ _ ?_
              clear hK K
              refine done_ (by kernel_rfl) ?_
              go_wp2_with fail
              go_ret
              rw [HE.out, HRM.out]
              exact ⟨rfl, ⟨cn + 1, Nat.le_refl _, (HG5.out.below HW6.out).turned HG7.out HS7.out⟩, (HF5.out.below HW6.out).grown HG7.out (fun k hk => .inl (by injection hk with hk; subst hk; exact HM.out.mok))⟩
    · have HE : Aside0 (setL l rm a b n = (l, rm, namedE l (nsOf a b))) := ⟨by unfold setL; rw [if_neg he]⟩
      have hbe : (namedE l (nsOf a b) == 0) = false := by simpa using he
      generalize namedE l (nsOf a b) = ee at HE hbe ⊢
      clear he
      go_wp2_with fail
      go_ret
      rw [HE.out]
      exact ⟨rfl, ⟨cn, by omega, HM1.out⟩, Fr.of_below HB1.out⟩
  · rw [hln] at HCALL
    go_wp2_with fail
    rw [← hW0]
    refine HCALL.out.mono ?_
    rintro e w1 ⟨rfl, hb1⟩
    have HB1 := Aside0.mk (HB0.out.trans (below_cut hb1 HB0.out.size))
    have HM1 := Aside0.mk (HM.out.below HB1.out)
    have HD1 := Aside0.mk (blk_below HD0.out hb1)
    clear hb1 hW0 hln hbm HNS
    by_cases he : namedE l (nsOf a b) = 0
    · have ha := namedE_in he a (by unfold nsOf; split <;> simp)
      obtain ⟨m, rfl⟩ : ∃ m : Nat, a = m := ⟨a.toNat, by omega⟩
      have hm : m < l.length := by omega
      have HML := Aside0.mk hm
      have HE0 := Aside0.mk he
      have hbl : b < (l.length : Int) := by
        by_cases hb : b = -1
        · omega
        · exact (namedE_in he b (by unfold nsOf; rw [if_neg hb]; simp)).2
      have HBL := Aside0.mk hbl
      rw [he]
      obtain ⟨q, cap, rfl⟩ := HM.out.vform (by omega)
      obtain ⟨A, c, x0, x1, x2, hp⟩ := HM1.out.at' m hm
      have HP := Aside0.mk hp
      have d2 := HM1.out.c1
      have da : w1.cell? ⟨w.heap.size, 1, none⟩ = some (.int .i64 (m : Int)) := (blk_cell HD1.out 1).trans rfl
      have hi0 : (0 : Int) ≤ (m : Int) := by omega
      have hi1 : (m : Int) < (l.length : Int) := by omega
      have HNL : Aside0 ((thAt l m).f0.length ≤ 1000) := ⟨by rw [thAt_eq hm]; exact (HO.out.pl _ (List.getElem_mem hm)).1⟩
      obtain ⟨fs, hfs⟩ : ∃ fs, fs = (thAt l m).f0 := ⟨_, rfl⟩
      obtain ⟨y1, hy1⟩ : ∃ y1, y1 = (thAt l m).f1 := ⟨_, rfl⟩
      obtain ⟨y2, hy2⟩ : ∃ y2, y2 = (thAt l m).f2 := ⟨_, rfl⟩
      rw [← hfs] at x0 HP HNL
      rw [← hy1] at x1
      rw [← hy2] at x2
      have HFS := Aside0.mk hfs
      have HY1 := Aside0.mk hy1
      have HIY : Aside0 (I64 (m : Int)) := ⟨by have := HML.out; have := HO.out.len; unfold I64; omega⟩
      clear he ha hp hfs hy1 hy2 hbl hm
      go_wp2_with fail
      refine start_ (n := 10) (S := fun w' => Below w1.heap.size w1 w' ∧ w'.cell? ⟨g, 1, none⟩ = some (.slice (some ⟨q, 0, none⟩) l.length cap) ∧ w'.cell? ⟨w.heap.size, 1, none⟩ = some (.int .i64 (m : Int)) ∧ w'.cell? ⟨q, m * 3, none⟩ = some (.slice A fs.length c) ∧ w'.cell? ⟨q, m * 3 + 1, none⟩ = some (.int .i64 y1) ∧ w'.cell? ⟨q, m * 3 + 2, none⟩ = some (.bool y2)) (ds := [9]) #[false, false, false, false, false, false, false, false, false, false] (by kernel_rfl) rfl rfl ⟨(below_drew (Below.refl _ _)), d2, da, x0, x1, x2⟩ (fun hHeld => ?_)
      refine pure_ (i := 0) (N := some 24) (v := ?_) (a' := ?_) #[true, false, false, false, false, false, false, false, false, false] rfl rfl (by kernel_rfl) (fun _ _ _ h => h) (Or.inl ⟨by rfl, ?_⟩) ?_ ?_
      rotate_left
      · intro w'
        go_simp
        with_reducible rfl
      rotate_left
      · simp only [Act.put, List.setIfInBounds_toArray, List.set_cons_zero, List.set_cons_succ, i64_w, i32_w]
        rfl
      refine pure_ (i := 1) (N := some 25) (v := ?_) (a' := ?_) #[true, true, false, false, false, false, false, false, false, false] rfl rfl (by kernel_rfl) (fun _ _ _ h => h) (Or.inl ⟨by rfl, ?_⟩) ?_ ?_
      rotate_left
      · intro w'
        go_simp
        with_reducible rfl
      rotate_left
      · simp only [Act.put, List.setIfInBounds_toArray, List.set_cons_zero, List.set_cons_succ, i64_w, i32_w]
        rfl
      refine pure_ (i := 2) (N := some 26) (v := ?_) (a' := ?_) #[true, true, true, false, false, false, false, false, false, false] rfl rfl (by kernel_rfl) (fun _ _ _ h => h) (Or.inl ⟨by rfl, ?_⟩) ?_ ?_
      rotate_left
      · intro w'
        go_simp
        with_reducible rfl
      rotate_left
      · simp only [Act.put, List.setIfInBounds_toArray, List.set_cons_zero, List.set_cons_succ, i64_w, i32_w]
        rfl
      refine pure_ (i := 4) (N := some 28) (v := ?_) (a' := ?_) #[true, true, true, false, true, false, false, false, false, false] rfl rfl (by kernel_rfl) (fun _ _ _ h => h) (Or.inl ⟨by rfl, ?_⟩) ?_ ?_
      rotate_left
      · intro w'
        go_simp
        with_reducible rfl
      rotate_left
      · simp only [Act.put, List.setIfInBounds_toArray, List.set_cons_zero, List.set_cons_succ, i64_w, i32_w]
        rfl
      refine take_ (i := 3) (N := some 27) (v := ?_) (a' := ?_) #[true, true, true, true, true, false, false, false, false, false] rfl rfl (by kernel_rfl) (fun _ _ _ h => h) (Or.inl ⟨by rfl, ?_⟩) hHeld ?_ ?_
      rotate_left
      · rintro w' ⟨s0, s1, s2, s3, s4, s5⟩
        go_simp
        with_reducible rfl
      rotate_left
      · simp only [Act.put, List.setIfInBounds_toArray, List.set_cons_zero, List.set_cons_succ, i64_w, i32_w]
        rfl
      refine take_ (i := 5) (N := some 29) (v := ?_) (a' := ?_) #[true, true, true, true, true, true, false, false, false, false] rfl rfl (by kernel_rfl) (fun _ _ _ h => h) (Or.inl ⟨by rfl, ?_⟩) hHeld ?_ ?_
      rotate_left
      · rintro w' ⟨s0, s1, s2, s3, s4, s5⟩
        go_simp
        with_reducible rfl
      rotate_left
      · simp only [Act.put, List.setIfInBounds_toArray, List.set_cons_zero, List.set_cons_succ, i64_w, i32_w]
        rfl
      refine pure_ (i := 6) (N := some 30) (v := ?_) (a' := ?_) #[true, true, true, true, true, true, true, false, false, false] rfl rfl (by kernel_rfl) (fun _ _ _ h => h) (Or.inl ⟨by rfl, ?_⟩) ?_ ?_
      rotate_left
      · intro w'
        go_simp
        with_reducible rfl
      rotate_left
      · simp only [Act.put, List.setIfInBounds_toArray, List.set_cons_zero, List.set_cons_succ, i64_w, i32_w]
        rfl
      refine take_ (i := 7) (N := some 31) (v := ?_) (a' := ?_) #[true, true, true, true, true, true, true, true, false, false] rfl rfl (by kernel_rfl) (fun _ _ _ h => h) (Or.inl ⟨by rfl, ?_⟩) hHeld ?_ ?_
      rotate_left
      · rintro w' ⟨s0, s1, s2, s3, s4, s5⟩
        go_simp
        with_reducible rfl
      rotate_left
      · simp only [Act.put, List.setIfInBounds_toArray, List.set_cons_zero, List.set_cons_succ, i64_w, i32_w]
        rfl
      refine one_ (i := 8) (N := some 7) #[true, true, true, true, true, true, true, true, true, false] rfl rfl (by kernel_rfl) (by decide) (fun K hK => ?_)
      have HW6 := Aside0.mk hHeld.1
      refine value_ (w1 := ?_) (v := ?_) (by rfl) rfl ?_ ?_
      rotate_left 2
      · go_simp
        constructor
        · rfl
        · rfl
      refine hK.out _ _ ⟨hHeld.1.alloc (Nat.le_trans hHeld.1.size (Nat.le_refl _)) _, pw_cell_below (below_alloc (Below.refl _ _) _) hHeld.2.1, pw_cell_below (below_alloc (Below.refl _ _) _) hHeld.2.2.1, pw_cell_below (below_alloc (Below.refl _ _) _) hHeld.2.2.2.1, pw_cell_below (below_alloc (Below.refl _ _) _) hHeld.2.2.2.2.1, pw_cell_below (below_alloc (Below.refl _ _) _) hHeld.2.2.2.2.2⟩ (fun hHeld => ?_)
      clear hK K
      refine norm_ (a' := ?_) ?_ ?_
      rotate_left
      · show Act.put _ (some 7) _ = _
        simp only [Act.put, List.setIfInBounds_toArray, List.set_cons_zero, List.set_cons_succ, i64_w, i32_w]
        rfl
      refine last_ (i := 9) (N := none) #[true, true, true, true, true, true, true, true, true, true] rfl rfl (by kernel_rfl) (by decide) (fun K hK => ?_)
      refine skip_ (w1 := ?_) (by rfl) rfl ?_ ?_
      rotate_left
      · go_simp
        rfl
      refine hK.out _ _ ?_
      clear hK K
      refine done_ (by kernel_rfl) ?_
      generalize hW2 : World.drew (World.alloc _ _) = W2
      have hX2 : W2.heap[w1.heap.size]? = some (.cells #[.slice A fs.length c, .int .i64 y1, .bool y2] 69 (0, 0)) := by rw [← hW2]; exact blk_drew (blk_new w1 _)
      have hb2 : Below w1.heap.size w1 W2 := by rw [← hW2]; exact below_drew (below_alloc (Below.refl _ _) _)
      have HX2 := Aside0.mk hX2
      have HB2 : Aside0 (Below w.heap.size w W2) := ⟨below_step HB1.out hb2⟩
      have HM2 := Aside0.mk (HM1.out.below hb2)
      have HD2 := Aside0.mk (blk_below HD1.out hb2)
      have dn : W2.cell? ⟨w.heap.size, 3, none⟩ = some (.int .i64 n) := (blk_cell HD2.out 3).trans rfl
      have db : W2.cell? ⟨w.heap.size, 2, none⟩ = some (.int .i64 b) := (blk_cell HD2.out 2).trans rfl
      have dx : W2.cell? ⟨w1.heap.size, 0, none⟩ = some (.slice A fs.length c) := (blk_cell HX2.out 0).trans rfl
      have dy : W2.cell? ⟨w1.heap.size, 1, none⟩ = some (.int .i64 y1) := (blk_cell HX2.out 1).trans rfl
      have dd : W2.cell? ⟨w.heap.size, 1, none⟩ = some (.int .i64 (m : Int)) := (blk_cell HD2.out 1).trans rfl
      have HWS : Aside0 (∀ k, ok k → k ≠ w.heap.size) := ⟨fun k hk e => by have := HK.out k hk; omega⟩
      have HWS2 : Aside0 (∀ k, ok k → k ≠ w1.heap.size) := ⟨fun k hk e => by have := HK.out k hk; have := HB1.out.size; omega⟩
      clear hW2 hX2 hb2 x0 x1 x2 d2 da
      by_cases hn0 : n < 0
      · have hd0 : decide (n < 0) = true := decide_eq_true hn0
        have HE : Aside0 (setL l rm m b n = (l, rm, 1)) := ⟨by unfold setL; rw [if_pos HE0.out, if_pos (.inl hn0)]⟩
        clear hn0
        go_wp2_with fail
        go_ret
        rw [HE.out]
        exact ⟨rfl, ⟨cn, by omega, HM2.out⟩, Fr.of_below HB2.out⟩
      · have hd0 : decide (n < 0) = false := decide_eq_false hn0
        by_cases hn1 : (fs.length : Int) ≤ n
        · have hd1 : decide ((fs.length : Int) ≤ n) = true := decide_eq_true hn1
          have HE : Aside0 (setL l rm m b n = (l, rm, 1)) := ⟨by unfold setL; rw [if_pos HE0.out, if_pos (.inr (by rw [Int.toNat_natCast, ← HFS.out]; exact hn1))]⟩
          clear hn0 hn1
          go_wp2_with fail
          go_ret
          rw [HE.out]
          exact ⟨rfl, ⟨cn, by omega, HM2.out⟩, Fr.of_below HB2.out⟩
        · have hd1 : decide ((fs.length : Int) ≤ n) = false := decide_eq_false hn1
          obtain ⟨j, rfl⟩ : ∃ j : Nat, n = j := ⟨n.toNat, by omega⟩
          have hj : j < fs.length := by omega
          have HE : Aside0 (setL l rm m b j = (putL l m j b, remL l rm m b, 0)) := ⟨by unfold setL; rw [if_pos HE0.out, if_neg (by rw [Int.toNat_natCast, ← HFS.out]; omega), Int.toNat_natCast, Int.toNat_natCast]⟩
          have hC := HM2.out.atC HML.out HP.out HFS.out.symm
          obtain ⟨pb, eA, _⟩ := placeForm (HM2.out.pl m HML.out) (A := A) (n := fs.length) (c := c) (by have h_ := HP.out; rw [List.getElem?_eq_getElem (by have := HM2.out.len; have := HML.out; omega)] at h_; exact Option.some.inj h_) (by rw [← thAt_eq HML.out, ← HFS.out]; omega)
          subst eA
          obtain ⟨ad, e_, hx⟩ := Kd.at_int hC (j : Int) (by omega) (by omega)
          injection e_ with e_
          subst e_
          rw [Int.toNat_natCast, rdI hj, add_plain] at hx
          have hz3 : W2.frozen? ⟨pb, j, none⟩ = false := by
            have hr := HM2.out.pl m HML.out
            have h_ := HP.out
            rw [List.getElem?_eq_getElem (by have := HM2.out.len; have := HML.out; omega)] at h_
            unfold placeRow at hr
            rw [Option.some.inj h_, ← thAt_eq HML.out, ← HFS.out] at hr
            exact World.ownsRow.frozenAt hr j
          have hj0 : (0 : Int) ≤ (j : Int) := by omega
          have hj1 : (j : Int) < (fs.length : Int) := by omega
          have HPOK : Aside0 (ok pb) := ⟨HM2.out.pok _ (List.mem_of_getElem? HP.out) pb rfl⟩
          have HPUT := Aside0.mk (HM2.out.putL m HML.out HP.out (by rw [HFS.out]) j b)
          have HF3 : Aside0 (Fr ok W2 (W2.setCell ⟨pb, j, none⟩ (.int .i64 b))) := ⟨(Fr.refl ok W2).set (.inl HPOK.out) _⟩
          have HF4 : Aside0 (Fr ok w (W2.setCell ⟨pb, j, none⟩ (.int .i64 b))) := ⟨(Fr.of_below HB2.out).trans HF3.out⟩
          have ey := HF3.out.cell dy (fun h_ => HWS2.out _ h_ rfl)
          have eb := HF3.out.cell db (fun h_ => HWS.out _ h_ rfl)
          have ed := HF3.out.cell dd (fun h_ => HWS.out _ h_ rfl)
          have ec := HPUT.out.c2
          have HYC := Aside0.mk (isYoung_calls _ b HPUT.out (by rw [putL_len]; exact HBL.out))
          rw [youngB_putL] at HYC
          generalize fs[j] = y at hx
          obtain ⟨W3, hW3⟩ : ∃ W3, W3 = W2.setCell ⟨pb, j, none⟩ (.int .i64 b) := ⟨_, rfl⟩
          have HW3 := Aside0.mk hW3.symm
          cases hy : (y1 == 1) with
          | false =>
            have HRM : Aside0 (remL l rm m b = rm) := ⟨by unfold remL; rw [Int.toNat_natCast, ← HY1.out, hy, if_neg (by simp)]⟩
            clear hn0 hn1 hC hj hW3
            go_wp2_with fail
            go_ret
            rw [HE.out, HRM.out]
            exact ⟨rfl, ⟨cn, by omega, HPUT.out⟩, HF4.out⟩
          | true =>
            cases hq : youngB l b with
            | false =>
              rw [hq] at HYC
              have HRM : Aside0 (remL l rm m b = rm) := ⟨by unfold remL; rw [hq, if_neg (by simp)]⟩
              clear hn0 hn1 hC hj hW3 hq
              go_wp2_with fail
              refine HYC.out.mono ?_
              rintro e w5 ⟨rfl, hb5⟩
              go_wp2_with fail
              go_ret
              rw [HE.out, HRM.out]
              exact ⟨rfl, ⟨cn, by omega, HPUT.out.below hb5⟩, HF4.out.below hb5⟩
            | true =>
              rw [hq] at HYC
              have HRM : Aside0 (remL l rm m b = (fun z => z == (m : Int) || rm z)) := ⟨by unfold remL; rw [Int.toNat_natCast, ← HY1.out, hy, hq, if_pos ⟨rfl, rfl⟩]⟩
              clear hn0 hn1 hC hj hW3 hq
              go_wp2_with fail
              refine HYC.out.mono ?_
              rintro e w5 ⟨rfl, hb5⟩
              have HB5 := Aside0.mk hb5
              have HG5 := Aside0.mk (HPUT.out.below hb5)
              have HF5 := Aside0.mk (HF4.out.below hb5)
              have fd := pw_cell_below hb5 ed
              have fc := HG5.out.c2
              clear hb5 ey eb ed ec hx dn db dx dy dd hz3
              go_wp2_with fail
              refine start_ (n := 8) (S := fun w' => Below w5.heap.size w5 w' ∧ w'.cell? ⟨g, 2, none⟩ = some (.map (some mb)) ∧ w'.cell? ⟨w.heap.size, 1, none⟩ = some (.int .i64 (m : Int))) (ds := [7]) #[false, false, false, false, false, false, false, false] (by kernel_rfl) rfl rfl ⟨(below_drew (Below.refl _ _)), fc, fd⟩ (fun hHeld => ?_)
              refine pure_ (i := 0) (N := some 59) (v := ?_) (a' := ?_) #[true, false, false, false, false, false, false, false] rfl rfl (by kernel_rfl) (fun _ _ _ h => h) (Or.inl ⟨by rfl, ?_⟩) ?_ ?_
              rotate_left
              · intro w'
                go_simp
                with_reducible rfl
              rotate_left
              · simp only [Act.put, List.setIfInBounds_toArray, List.set_cons_zero, List.set_cons_succ, i64_w, i32_w]
                rfl
              refine pure_ (i := 1) (N := some 60) (v := ?_) (a' := ?_) #[true, true, false, false, false, false, false, false] rfl rfl (by kernel_rfl) (fun _ _ _ h => h) (Or.inl ⟨by rfl, ?_⟩) ?_ ?_
              rotate_left
              · intro w'
                go_simp
                with_reducible rfl
              rotate_left
              · simp only [Act.put, List.setIfInBounds_toArray, List.set_cons_zero, List.set_cons_succ, i64_w, i32_w]
                rfl
              refine pure_ (i := 2) (N := some 61) (v := ?_) (a' := ?_) #[true, true, true, false, false, false, false, false] rfl rfl (by kernel_rfl) (fun _ _ _ h => h) (Or.inl ⟨by rfl, ?_⟩) ?_ ?_
              rotate_left
              · intro w'
                go_simp
                with_reducible rfl
              rotate_left
              · simp only [Act.put, List.setIfInBounds_toArray, List.set_cons_zero, List.set_cons_succ, i64_w, i32_w]
                rfl
              refine pure_ (i := 4) (N := some 63) (v := ?_) (a' := ?_) #[true, true, true, false, true, false, false, false] rfl rfl (by kernel_rfl) (fun _ _ _ h => h) (Or.inl ⟨by rfl, ?_⟩) ?_ ?_
              rotate_left
              · intro w'
                go_simp
                with_reducible rfl
              rotate_left
              · simp only [Act.put, List.setIfInBounds_toArray, List.set_cons_zero, List.set_cons_succ, i64_w, i32_w]
                rfl
              refine pure_ (i := 6) (N := some 65) (v := ?_) (a' := ?_) #[true, true, true, false, true, false, true, false] rfl rfl (by kernel_rfl) (fun _ _ _ h => h) (Or.inl ⟨by rfl, ?_⟩) ?_ ?_
              rotate_left
              · intro w'
                go_simp
                with_reducible rfl
              rotate_left
              · simp only [Act.put, List.setIfInBounds_toArray, List.set_cons_zero, List.set_cons_succ, i64_w, i32_w]
                rfl
              refine take_ (i := 3) (N := some 62) (v := ?_) (a' := ?_) #[true, true, true, true, true, false, true, false] rfl rfl (by kernel_rfl) (fun _ _ _ h => h) (Or.inl ⟨by rfl, ?_⟩) hHeld ?_ ?_
              rotate_left
              · rintro w' ⟨s0, s1, s2⟩
                go_simp
                with_reducible rfl
              rotate_left
              · simp only [Act.put, List.setIfInBounds_toArray, List.set_cons_zero, List.set_cons_succ, i64_w, i32_w]
                rfl
              refine take_ (i := 5) (N := some 64) (v := ?_) (a' := ?_) #[true, true, true, true, true, true, true, false] rfl rfl (by kernel_rfl) (fun _ _ _ h => h) (Or.inl ⟨by rfl, ?_⟩) hHeld ?_ ?_
              rotate_left
              · rintro w' ⟨s0, s1, s2⟩
                go_simp
                with_reducible rfl
              rotate_left
              · simp only [Act.put, List.setIfInBounds_toArray, List.set_cons_zero, List.set_cons_succ, i64_w, i32_w]
                rfl
              refine last_ (i := 7) (N := none) #[true, true, true, true, true, true, true, true] rfl rfl (by kernel_rfl) (by decide) (fun K hK => ?_)
              have HW6 := Aside0.mk hHeld.1
              refine step_put_set (by rfl) (.tmp 62) (.tmp 64) (.tmp 65) rfl Try.underlying3 hmt (HG5.out.below HW6.out).set (by have h_ := HCN.out; unfold maxLen; omega) rfl (m : Int) rfl HIY.out rfl ?_
              intro w7 hs7 hg7
              have HS7 := Aside0.mk hs7
              have HG7 := Aside0.mk hg7
              clear hs7 hg7
              refine hK.out _ _ ?_
              clear hK K
              refine done_ (by kernel_rfl) ?_
              go_wp2_with fail
              go_ret
              rw [HE.out, HRM.out]
              exact ⟨rfl, ⟨cn + 1, Nat.le_refl _, (HG5.out.below HW6.out).turned HG7.out HS7.out⟩, (HF5.out.below HW6.out).grown HG7.out (fun k hk => .inl (by injection hk with hk; subst hk; exact HM.out.mok))⟩
    · have HE : Aside0 (setL l rm a b n = (l, rm, namedE l (nsOf a b))) := ⟨by unfold setL; rw [if_neg he]⟩
      have hbe : (namedE l (nsOf a b) == 0) = false := by simpa using he
      generalize namedE l (nsOf a b) = ee at HE hbe ⊢
      clear he
      go_wp2_with fail
      go_ret
      rw [HE.out]
      exact ⟨rfl, ⟨cn, by omega, HM1.out⟩, Fr.of_below HB1.out⟩
end Go.Proofs.Ytnimidkeoocchaa.Gen
