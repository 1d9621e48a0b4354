/- Package mark: set walked. -/
import Derived.Test.YtnimidkeoocchaaMarkMk
set_option linter.unusedVariables false
set_option linter.unusedSimpArgs false
namespace Go.Proofs.Ytnimidkeoocchaa.Mrk
open Go.RowKit Go.Proofs.YtnimidkeoocchaaW.PrintWords Go.Proofs.YtnimidkeoocchaaW.PrintLast Go.Proofs.YtnimidkeoocchaaW.PrintMore Go.Proofs.Ytnimidkeoocchaa.PK Go.Proofs.Ytnimidkeoocchaa.Hnd Go.Proofs.Ytnimidkeoocchaa.Rch

def putL (l : List Th) (i j : Nat) (x : Int) : List Th := l.set i ⟨(thAt l i).f0.set j x, (thAt l i).f1, (thAt l i).f2⟩
def nsOf (a b : Int) : List Int := if b = -1 then [a] else [a, b]
/-- What is shaded by a set. -/
def oldOf (kind : Int) (l : List Th) (a b n : Int) : Int := if kind = 1 then b else (thAt l a.toNat).f0.getD n.toNat 0
def setL (kind : Int) (mk : Bool) (l : List Th) (a b n : Int) : List Th × Int :=
  if namedE l (nsOf a b) = 0 then (if n < 0 ∨ ((thAt l a.toNat).f0.length : Int) ≤ n then (l, 1) else (putL (shadeL mk (oldOf kind l a b n) l) a.toNat n.toNat b, 0)) else (l, namedE l (nsOf a b))
theorem C_two1 {W : World} {b : Nat} {x y : Int} {t : Nat} (hb : W.heap[b]? = some (.cells #[.int .i64 x, .int .i64 y] t (0, 0))) : (Kd.int .i64).C W (some ⟨b, 0, none⟩) 1 [x] := by
  refine ⟨rfl, by omega, fun _ => ⟨_, rfl, fun j p hj => ?_⟩⟩
  rcases j with _ | j
  · simp only [List.getElem?_cons_zero, Option.some.injEq] at hj
    subst hj
    refine ⟨[.int .i64 x], rfl, rfl, fun i u hu => ?_⟩
    rcases i with _ | i
    · simp at hu; subst hu; rw [add_plain]; exact (blk_cell hb 0).trans rfl
    · simp at hu
  · simp at hj
theorem C_two2 {W : World} {b : Nat} {x y : Int} {t : Nat} (hb : W.heap[b]? = some (.cells #[.int .i64 x, .int .i64 y] t (0, 0))) : (Kd.int .i64).C W (some ⟨b, 0, none⟩) 2 [x, y] := by
  refine ⟨rfl, by omega, fun _ => ⟨_, rfl, fun j p hj => ?_⟩⟩
  rcases j with _ | _ | j
  · simp only [List.getElem?_cons_zero, Option.some.injEq] at hj
    subst hj
    refine ⟨[.int .i64 x], rfl, rfl, fun i u hu => ?_⟩
    rcases i with _ | i
    · simp at hu; subst hu; rw [add_plain]; exact (blk_cell hb 0).trans rfl
    · simp at hu
  · simp at hj
    subst hj
    refine ⟨[.int .i64 y], rfl, rfl, fun i u hu => ?_⟩
    rcases i with _ | i
    · simp at hu; subst hu; rw [add_plain]; exact (blk_cell hb 1).trans rfl
    · simp at hu
  · simp at hj
theorem MS.putL {W : World} {ok : Nat → Prop} {g : Nat} {kind : Int} {mk : Bool} {v : Value} {ps : List Value} {l : List Th} (h : MS W ok g kind mk v ps l) (i : Nat) (hi : i < l.length) {b cap n : Nat} (hp : ps[i]? = some (.slice (some ⟨b, 0, none⟩) n cap)) (hn : n = (thAt l i).f0.length) (j : Nat) (x : Int) :
    MS (W.setCell ⟨b, j, none⟩ (.int .i64 x)) ok g kind mk v ps (Mrk.putL l i j x) := by
  unfold Mrk.putL
  rw [thAt_eq hi] at hn ⊢
  refine h.put i hi (b := b) (cap := cap) ?_ j x
  rw [List.getElem?_eq_getElem (by have := h.len; omega)] at hp
  rw [Option.some.inj hp, hn]
theorem placeForm {W : World} {p : Value} {f : List Int} (h : placeRow W p f) {A : Option Addr} {n c : Nat} (e : p = .slice A n c) (hn : 0 < f.length) : ∃ b, A = some ⟨b, 0, none⟩ ∧ W.heap[b]?.isSome = true := by
  obtain ⟨b, cap, e2⟩ := own_nth h hn
  rw [e] at e2
  injection e2 with e3 _ _
  refine ⟨b, e3, ?_⟩
  have := (World.ownsRow.lt h b (by rw [e, e3]; rfl)).2
  simp [this]
set_option maxHeartbeats 16000000 in
set_option maxRecDepth 100000 in
theorem set_calls (w : World) {ok : Nat → Prop} {g : Nat} {kind : Int} {mk : Bool} {v : Value} {ps : List Value} {l : List Th} (h : MS w ok g kind mk v ps l) (ho : OkL l) (hok : ∀ k, ok k → k < w.heap.size) (d a b n : Int) :
    Calls Try.prog 48 #[.pointer (some ⟨g, 0, none⟩), .agg #[.int .i64 d, .int .i64 a, .int .i64 b, .int .i64 n]] w fun e w' => e = .returned (.int .i64 (setL kind mk l a b n).2) ∧ MS w' ok g kind mk v ps (setL kind mk l a b n).1 ∧ Fr ok w w' := by
  have HM := Aside0.mk h
  have HO := Aside0.mk ho
  have HK := Aside0.mk hok
  obtain ⟨W0, hW0⟩ : ∃ W0, W0 = (w.alloc (Obj.cells #[.int .i64 d, .int .i64 a, .int .i64 b, .int .i64 n] 31)).alloc (Obj.cells #[.int .i64 a, .int .i64 b] 3) := ⟨_, rfl⟩
  have hb0 : Below w.heap.size w W0 := by rw [hW0]; exact below_alloc (below_alloc (Below.refl _ _) _) _
  have HD0 : Aside0 (W0.heap[w.heap.size]? = some (.cells #[.int .i64 d, .int .i64 a, .int .i64 b, .int .i64 n] 31 (0, 0))) := ⟨by rw [hW0]; exact blk_alloc (blk_new w _) _⟩
  have HN0 : Aside0 (W0.heap[w.heap.size + 1]? = some (.cells #[.int .i64 a, .int .i64 b] 3 (0, 0))) := ⟨by rw [hW0]; have h_ := blk_new (w.alloc (Obj.cells #[.int .i64 d, .int .i64 a, .int .i64 b, .int .i64 n] 31)) (Obj.cells #[.int .i64 a, .int .i64 b] 3); rwa [blk_size] at h_⟩
  have HB0 := Aside0.mk hb0
  have HCALL : Aside0 (Calls Try.prog 72 #[.pointer (some ⟨g, 0, none⟩), .slice (some ⟨w.heap.size + 1, 0, none⟩) (nsOf a b).length 2] W0 fun e w' => e = .returned (.int .i64 (namedE l (nsOf a b))) ∧ Below W0.heap.size W0 w') := ⟨by
    refine named_calls W0 (h.below hb0) ho _ 2 (nsOf a b) ?_ ?_ ?_
    · unfold nsOf; split
      · exact C_two1 HN0.out
      · exact C_two2 HN0.out
    · unfold nsOf; split <;> simp
    · unfold nsOf; split <;> simp⟩
  clear h ho hok hb0
  have HNS : Aside0 ((b == -1) = true ∧ (nsOf a b).length = 1 ∨ (b == -1) = false ∧ (nsOf a b).length = 2) := ⟨by
    unfold nsOf
    by_cases hb : b = -1
    · left; rw [if_pos hb]; exact ⟨by simpa using hb, rfl⟩
    · right; rw [if_neg hb]; exact ⟨by simpa using hb, rfl⟩⟩
  go_enter Try.func48, Try.ntmps48
  rcases HNS.out with ⟨hbm, hln⟩ | ⟨hbm, hln⟩
  · rw [hln] at HCALL
    go_wp2_with fail
    rw [← hW0]
    refine HCALL.out.mono ?_
    rintro e w1 ⟨rfl, hb1⟩
    have HB1 := Aside0.mk (HB0.out.trans (below_cut hb1 HB0.out.size))
    have HM1 := Aside0.mk (HM.out.below HB1.out)
    have HD1 := Aside0.mk (blk_below HD0.out hb1)
    clear hb1 hW0 hln hbm HNS
    by_cases he : namedE l (nsOf a b) = 0
    · have ha := namedE_in he a (by unfold nsOf; split <;> simp)
      obtain ⟨m, rfl⟩ : ∃ m : Nat, a = m := ⟨a.toNat, by omega⟩
      have hm : m < l.length := by omega
      have HML := Aside0.mk hm
      have HE0 := Aside0.mk he
      have hbl : b < (l.length : Int) := by
        by_cases hb : b = -1
        · omega
        · exact (namedE_in he b (by unfold nsOf; rw [if_neg hb]; simp)).2
      have HBL := Aside0.mk hbl
      rw [he]
      obtain ⟨q, cap, rfl⟩ := HM.out.vform (by omega)
      obtain ⟨A, c, x0, x1, x2, hp⟩ := HM1.out.at' m hm
      have HP := Aside0.mk hp
      have d2 := HM1.out.c2
      have da : w1.cell? ⟨w.heap.size, 1, none⟩ = some (.int .i64 (m : Int)) := (blk_cell HD1.out 1).trans rfl
      have hi0 : (0 : Int) ≤ (m : Int) := by omega
      have hi1 : (m : Int) < (l.length : Int) := by omega
      have HNL : Aside0 ((thAt l m).f0.length ≤ 1000) := ⟨by rw [thAt_eq hm]; exact (HO.out.pl _ (List.getElem_mem hm)).1⟩
      obtain ⟨fs, hfs⟩ : ∃ fs, fs = (thAt l m).f0 := ⟨_, rfl⟩
      obtain ⟨y1, hy1⟩ : ∃ y1, y1 = (thAt l m).f1 := ⟨_, rfl⟩
      obtain ⟨y2, hy2⟩ : ∃ y2, y2 = (thAt l m).f2 := ⟨_, rfl⟩
      rw [← hfs] at x0 HP HNL
      rw [← hy1] at x1
      rw [← hy2] at x2
      have HFS := Aside0.mk hfs
      clear he ha hp hfs hy1 hy2 hbl hm
      go_wp2_with fail
      refine start_ (n := 10) (S := fun w' => Below w1.heap.size w1 w' ∧ w'.cell? ⟨g, 2, none⟩ = some (.slice (some ⟨q, 0, none⟩) l.length cap) ∧ w'.cell? ⟨w.heap.size, 1, none⟩ = some (.int .i64 (m : Int)) ∧ w'.cell? ⟨q, m * 3, none⟩ = some (.slice A fs.length c) ∧ w'.cell? ⟨q, m * 3 + 1, none⟩ = some (.int .i64 y1) ∧ w'.cell? ⟨q, m * 3 + 2, none⟩ = some (.bool y2)) (ds := [9]) #[false, false, false, false, false, false, false, false, false, false] (by kernel_rfl) rfl rfl ⟨(below_drew (Below.refl _ _)), d2, da, x0, x1, x2⟩ (fun hHeld => ?_)
      refine pure_ (i := 0) (N := some 24) (v := ?_) (a' := ?_) #[true, false, false, false, false, false, false, false, false, false] rfl rfl (by kernel_rfl) (fun _ _ _ h => h) (Or.inl ⟨by rfl, ?_⟩) ?_ ?_
      rotate_left
      · intro w'
        go_simp
        with_reducible rfl
      rotate_left
      · simp only [Act.put, List.setIfInBounds_toArray, List.set_cons_zero, List.set_cons_succ, i64_w, i32_w]
        rfl
      refine pure_ (i := 1) (N := some 25) (v := ?_) (a' := ?_) #[true, true, false, false, false, false, false, false, false, false] rfl rfl (by kernel_rfl) (fun _ _ _ h => h) (Or.inl ⟨by rfl, ?_⟩) ?_ ?_
      rotate_left
      · intro w'
        go_simp
        with_reducible rfl
      rotate_left
      · simp only [Act.put, List.setIfInBounds_toArray, List.set_cons_zero, List.set_cons_succ, i64_w, i32_w]
        rfl
      refine pure_ (i := 2) (N := some 26) (v := ?_) (a' := ?_) #[true, true, true, false, false, false, false, false, false, false] rfl rfl (by kernel_rfl) (fun _ _ _ h => h) (Or.inl ⟨by rfl, ?_⟩) ?_ ?_
      rotate_left
      · intro w'
        go_simp
        with_reducible rfl
      rotate_left
      · simp only [Act.put, List.setIfInBounds_toArray, List.set_cons_zero, List.set_cons_succ, i64_w, i32_w]
        rfl
      refine pure_ (i := 4) (N := some 28) (v := ?_) (a' := ?_) #[true, true, true, false, true, false, false, false, false, false] rfl rfl (by kernel_rfl) (fun _ _ _ h => h) (Or.inl ⟨by rfl, ?_⟩) ?_ ?_
      rotate_left
      · intro w'
        go_simp
        with_reducible rfl
      rotate_left
      · simp only [Act.put, List.setIfInBounds_toArray, List.set_cons_zero, List.set_cons_succ, i64_w, i32_w]
        rfl
      refine take_ (i := 3) (N := some 27) (v := ?_) (a' := ?_) #[true, true, true, true, true, false, false, false, false, false] rfl rfl (by kernel_rfl) (fun _ _ _ h => h) (Or.inl ⟨by rfl, ?_⟩) hHeld ?_ ?_
      rotate_left
      · rintro w' ⟨s0, s1, s2, s3, s4, s5⟩
        go_simp
        with_reducible rfl
      rotate_left
      · simp only [Act.put, List.setIfInBounds_toArray, List.set_cons_zero, List.set_cons_succ, i64_w, i32_w]
        rfl
      refine take_ (i := 5) (N := some 29) (v := ?_) (a' := ?_) #[true, true, true, true, true, true, false, false, false, false] rfl rfl (by kernel_rfl) (fun _ _ _ h => h) (Or.inl ⟨by rfl, ?_⟩) hHeld ?_ ?_
      rotate_left
      · rintro w' ⟨s0, s1, s2, s3, s4, s5⟩
        go_simp
        with_reducible rfl
      rotate_left
      · simp only [Act.put, List.setIfInBounds_toArray, List.set_cons_zero, List.set_cons_succ, i64_w, i32_w]
        rfl
      refine pure_ (i := 6) (N := some 30) (v := ?_) (a' := ?_) #[true, true, true, true, true, true, true, false, false, false] rfl rfl (by kernel_rfl) (fun _ _ _ h => h) (Or.inl ⟨by rfl, ?_⟩) ?_ ?_
      rotate_left
      · intro w'
        go_simp
        with_reducible rfl
      rotate_left
      · simp only [Act.put, List.setIfInBounds_toArray, List.set_cons_zero, List.set_cons_succ, i64_w, i32_w]
        rfl
      refine take_ (i := 7) (N := some 31) (v := ?_) (a' := ?_) #[true, true, true, true, true, true, true, true, false, false] rfl rfl (by kernel_rfl) (fun _ _ _ h => h) (Or.inl ⟨by rfl, ?_⟩) hHeld ?_ ?_
      rotate_left
      · rintro w' ⟨s0, s1, s2, s3, s4, s5⟩
        go_simp
        with_reducible rfl
      rotate_left
      · simp only [Act.put, List.setIfInBounds_toArray, List.set_cons_zero, List.set_cons_succ, i64_w, i32_w]
        rfl
      refine one_ (i := 8) (N := some 7) #[true, true, true, true, true, true, true, true, true, false] rfl rfl (by kernel_rfl) (by decide) (fun K hK => ?_)
      have HW6 := Aside0.mk hHeld.1
      refine value_ (w1 := ?_) (v := ?_) (by rfl) rfl ?_ ?_
      rotate_left 2
      · go_simp
        constructor
        · rfl
        · rfl
      refine hK.out _ _ ⟨hHeld.1.alloc (Nat.le_trans hHeld.1.size (Nat.le_refl _)) _, pw_cell_below (below_alloc (Below.refl _ _) _) hHeld.2.1, pw_cell_below (below_alloc (Below.refl _ _) _) hHeld.2.2.1, pw_cell_below (below_alloc (Below.refl _ _) _) hHeld.2.2.2.1, pw_cell_below (below_alloc (Below.refl _ _) _) hHeld.2.2.2.2.1, pw_cell_below (below_alloc (Below.refl _ _) _) hHeld.2.2.2.2.2⟩ (fun hHeld => ?_)
      clear hK K
      refine norm_ (a' := ?_) ?_ ?_
      rotate_left
      · show Act.put _ (some 7) _ = _
        simp only [Act.put, List.setIfInBounds_toArray, List.set_cons_zero, List.set_cons_succ, i64_w, i32_w]
        rfl
      refine last_ (i := 9) (N := none) #[true, true, true, true, true, true, true, true, true, true] rfl rfl (by kernel_rfl) (by decide) (fun K hK => ?_)
      refine skip_ (w1 := ?_) (by rfl) rfl ?_ ?_
      rotate_left
      · go_simp
        rfl
      refine hK.out _ _ ?_
      clear hK K
      refine done_ (by kernel_rfl) ?_
      generalize hW2 : World.drew (World.alloc _ _) = W2
      have hX2 : W2.heap[w1.heap.size]? = some (.cells #[.slice A fs.length c, .int .i64 y1, .bool y2] 78 (0, 0)) := by rw [← hW2]; exact blk_drew (blk_new w1 _)
      have hb2 : Below w1.heap.size w1 W2 := by rw [← hW2]; exact below_drew (below_alloc (Below.refl _ _) _)
      have HX2 := Aside0.mk hX2
      have HB2 : Aside0 (Below w.heap.size w W2) := ⟨below_step HB1.out hb2⟩
      have HM2 := Aside0.mk (HM1.out.below hb2)
      have HD2 := Aside0.mk (blk_below HD1.out hb2)
      have dn : W2.cell? ⟨w.heap.size, 3, none⟩ = some (.int .i64 n) := (blk_cell HD2.out 3).trans rfl
      have db : W2.cell? ⟨w.heap.size, 2, none⟩ = some (.int .i64 b) := (blk_cell HD2.out 2).trans rfl
      have dx : W2.cell? ⟨w1.heap.size, 0, none⟩ = some (.slice A fs.length c) := (blk_cell HX2.out 0).trans rfl
      have dk := HM2.out.c0
      have HWS : Aside0 (∀ k, ok k → k ≠ w.heap.size) := ⟨fun k hk e => by have := HK.out k hk; omega⟩
      have HWS2 : Aside0 (∀ k, ok k → k ≠ w1.heap.size) := ⟨fun k hk e => by have := HK.out k hk; have := HB1.out.size; omega⟩
      clear hW2 hX2 hb2 x0 x1 x2 d2 da
      by_cases hn0 : n < 0
      · have hd0 : decide (n < 0) = true := decide_eq_true hn0
        have HE : Aside0 (setL kind mk l m b n = (l, 1)) := ⟨by unfold setL; rw [if_pos HE0.out, if_pos (.inl hn0)]⟩
        clear hn0
        go_wp2_with fail
        go_ret
        rw [HE.out]
        exact ⟨rfl, HM2.out, Fr.of_below HB2.out⟩
      · have hd0 : decide (n < 0) = false := decide_eq_false hn0
        by_cases hn1 : (fs.length : Int) ≤ n
        · have hd1 : decide ((fs.length : Int) ≤ n) = true := decide_eq_true hn1
          have HE : Aside0 (setL kind mk l m b n = (l, 1)) := ⟨by unfold setL; rw [if_pos HE0.out, if_pos (.inr (by rw [Int.toNat_natCast, ← HFS.out]; exact hn1))]⟩
          clear hn0 hn1
          go_wp2_with fail
          go_ret
          rw [HE.out]
          exact ⟨rfl, HM2.out, Fr.of_below HB2.out⟩
        · have hd1 : decide ((fs.length : Int) ≤ n) = false := decide_eq_false hn1
          obtain ⟨j, rfl⟩ : ∃ j : Nat, n = j := ⟨n.toNat, by omega⟩
          have hj : j < fs.length := by omega
          have HJL := Aside0.mk hj
          have HE : Aside0 (setL kind mk l m b j = (putL (shadeL mk (oldOf kind l m b j) l) m j b, 0)) := ⟨by unfold setL; rw [if_pos HE0.out, if_neg (by rw [Int.toNat_natCast, ← HFS.out]; omega), Int.toNat_natCast, Int.toNat_natCast]⟩
          have hC := HM2.out.atC HML.out HP.out HFS.out.symm
          obtain ⟨pb, eA, _⟩ := placeForm (HM2.out.pl m HML.out) (A := A) (n := fs.length) (c := c) (by have h_ := HP.out; rw [List.getElem?_eq_getElem (by have := HM2.out.len; have := HML.out; omega)] at h_; exact Option.some.inj h_) (by rw [← thAt_eq HML.out, ← HFS.out]; omega)
          subst eA
          have hx := (Kd.at_int hC (j : Int) (by omega) (by omega))
          obtain ⟨ad, e_, hx⟩ := hx
          injection e_ with e_
          subst e_
          rw [Int.toNat_natCast, rdI hj, add_plain] at hx
          have hold : oldOf kind l m b j = if kind = 1 then b else fs[j] := by unfold oldOf; rw [Int.toNat_natCast, Int.toNat_natCast, ← HFS.out]; simp [List.getD_eq_getElem?_getD, hj]
          have hin : fs[j] < (l.length : Int) := by
            have h_ := (HO.out.pl _ (List.getElem_mem HML.out)).2
            rw [← thAt_eq HML.out, ← HFS.out] at h_
            exact h_ _ (List.getElem_mem hj)
          have hj0 : (0 : Int) ≤ (j : Int) := by omega
          have hj1 : (j : Int) < (fs.length : Int) := by omega
          have hpok : ok pb := HM2.out.pok _ (List.mem_of_getElem? HP.out) pb rfl
          have HPOK := Aside0.mk hpok
          by_cases hk : kind = 1
          · rw [if_pos hk] at hold
            rw [hold] at HE
            have hbk : (kind == 1) = true := by simpa using hk
            have HSH := Aside0.mk (shade_calls W2 b HM2.out HBL.out)
            have HHA := Aside0.mk (shadeL_has mk b l)
            generalize shadeL mk b l = l1 at HE HSH HHA
            generalize fs[j] = y at hx hin
            clear hn0 hn1 hC hold hin hpok hj hk
            go_wp2_with fail
            refine HSH.out.mono ?_
            rintro e w3 ⟨rfl, hm3, hf3⟩
            have en : w3.cell? ⟨w.heap.size, 3, none⟩ = some (.int .i64 (j : Int)) := hf3.cell dn (fun h_ => HWS.out _ h_ rfl)
            have eb : w3.cell? ⟨w.heap.size, 2, none⟩ = some (.int .i64 b) := hf3.cell db (fun h_ => HWS.out _ h_ rfl)
            have ex : w3.cell? ⟨w1.heap.size, 0, none⟩ = some (.slice (some ⟨pb, 0, none⟩) fs.length c) := hf3.cell dx (fun h_ => HWS2.out _ h_ rfl)
            have hl1 := hasL_len HHA.out
            have hf0 : (thAt l1 m).f0 = fs := by rw [hasL_at HHA.out, HFS.out]
            have hC3 := hm3.atC (by rw [hl1]; exact HML.out) HP.out hf0
            obtain ⟨ad, e_, hx3⟩ := Kd.at_int hC3 (j : Int) (by omega) (by omega)
            injection e_ with e_
            subst e_
            rw [Int.toNat_natCast, add_plain] at hx3
            have hz3 : w3.frozen? ⟨pb, j, none⟩ = false := by
              have hr := hm3.pl m (by rw [hl1]; exact HML.out)
              have h_ := HP.out
              rw [List.getElem?_eq_getElem (by have := HM2.out.len; have := HML.out; omega)] at h_
              unfold placeRow at hr
              rw [Option.some.inj h_, ← thAt_eq (by rw [hl1]; exact HML.out), hf0] at hr
              exact World.ownsRow.frozenAt hr j
            have HPUT := Aside0.mk (hm3.putL m (by rw [hl1]; exact HML.out) HP.out (by rw [hf0]) j b)
            have HF3 := Aside0.mk hf3
            clear hm3 hf3 hC3 dn db dx dk hl1 hf0 hx
            go_wp2_with fail
            go_ret
            rw [HE.out]
            exact ⟨rfl, HPUT.out, ((Fr.of_below HB2.out).trans HF3.out).set (.inl HPOK.out) _⟩
          · rw [if_neg hk] at hold
            rw [hold] at HE
            have hbk : (kind == 1) = false := by simpa using hk
            have HSH := Aside0.mk (shade_calls W2 fs[j] HM2.out hin)
            have HHA := Aside0.mk (shadeL_has mk fs[j] l)
            generalize fs[j] = y at hx HE HSH HHA
            generalize shadeL mk y l = l1 at HE HSH HHA
            clear hn0 hn1 hC hold hin hpok hj hk
            go_wp2_with fail
            refine HSH.out.mono ?_
            rintro e w3 ⟨rfl, hm3, hf3⟩
            have en : w3.cell? ⟨w.heap.size, 3, none⟩ = some (.int .i64 (j : Int)) := hf3.cell dn (fun h_ => HWS.out _ h_ rfl)
            have eb : w3.cell? ⟨w.heap.size, 2, none⟩ = some (.int .i64 b) := hf3.cell db (fun h_ => HWS.out _ h_ rfl)
            have ex : w3.cell? ⟨w1.heap.size, 0, none⟩ = some (.slice (some ⟨pb, 0, none⟩) fs.length c) := hf3.cell dx (fun h_ => HWS2.out _ h_ rfl)
            have hl1 := hasL_len HHA.out
            have hf0 : (thAt l1 m).f0 = fs := by rw [hasL_at HHA.out, HFS.out]
            have hC3 := hm3.atC (by rw [hl1]; exact HML.out) HP.out hf0
            obtain ⟨ad, e_, hx3⟩ := Kd.at_int hC3 (j : Int) (by omega) (by omega)
            injection e_ with e_
            subst e_
            rw [Int.toNat_natCast, add_plain] at hx3
            have hz3 : w3.frozen? ⟨pb, j, none⟩ = false := by
              have hr := hm3.pl m (by rw [hl1]; exact HML.out)
              have h_ := HP.out
              rw [List.getElem?_eq_getElem (by have := HM2.out.len; have := HML.out; omega)] at h_
              unfold placeRow at hr
              rw [Option.some.inj h_, ← thAt_eq (by rw [hl1]; exact HML.out), hf0] at hr
              exact World.ownsRow.frozenAt hr j
            have HPUT := Aside0.mk (hm3.putL m (by rw [hl1]; exact HML.out) HP.out (by rw [hf0]) j b)
            have HF3 := Aside0.mk hf3
            clear hm3 hf3 hC3 dn db dx dk hl1 hf0 hx
            go_wp2_with fail
            go_ret
            rw [HE.out]
            exact ⟨rfl, HPUT.out, ((Fr.of_below HB2.out).trans HF3.out).set (.inl HPOK.out) _⟩
    · have HE : Aside0 (setL kind mk l a b n = (l, namedE l (nsOf a b))) := ⟨by unfold setL; rw [if_neg he]⟩
      have hbe : (namedE l (nsOf a b) == 0) = false := by simpa using he
      generalize namedE l (nsOf a b) = ee at HE hbe ⊢
      clear he
      go_wp2_with fail
      go_ret
      rw [HE.out]
      exact ⟨rfl, HM1.out, Fr.of_below HB1.out⟩
  · rw [hln] at HCALL
    go_wp2_with fail
    rw [← hW0]
    refine HCALL.out.mono ?_
    rintro e w1 ⟨rfl, hb1⟩
    have HB1 := Aside0.mk (HB0.out.trans (below_cut hb1 HB0.out.size))
    have HM1 := Aside0.mk (HM.out.below HB1.out)
    have HD1 := Aside0.mk (blk_below HD0.out hb1)
    clear hb1 hW0 hln hbm HNS
    by_cases he : namedE l (nsOf a b) = 0
    · have ha := namedE_in he a (by unfold nsOf; split <;> simp)
      obtain ⟨m, rfl⟩ : ∃ m : Nat, a = m := ⟨a.toNat, by omega⟩
      have hm : m < l.length := by omega
      have HML := Aside0.mk hm
      have HE0 := Aside0.mk he
      have hbl : b < (l.length : Int) := by
        by_cases hb : b = -1
        · omega
        · exact (namedE_in he b (by unfold nsOf; rw [if_neg hb]; simp)).2
      have HBL := Aside0.mk hbl
      rw [he]
      obtain ⟨q, cap, rfl⟩ := HM.out.vform (by omega)
      obtain ⟨A, c, x0, x1, x2, hp⟩ := HM1.out.at' m hm
      have HP := Aside0.mk hp
      have d2 := HM1.out.c2
      have da : w1.cell? ⟨w.heap.size, 1, none⟩ = some (.int .i64 (m : Int)) := (blk_cell HD1.out 1).trans rfl
      have hi0 : (0 : Int) ≤ (m : Int) := by omega
      have hi1 : (m : Int) < (l.length : Int) := by omega
      have HNL : Aside0 ((thAt l m).f0.length ≤ 1000) := ⟨by rw [thAt_eq hm]; exact (HO.out.pl _ (List.getElem_mem hm)).1⟩
      obtain ⟨fs, hfs⟩ : ∃ fs, fs = (thAt l m).f0 := ⟨_, rfl⟩
      obtain ⟨y1, hy1⟩ : ∃ y1, y1 = (thAt l m).f1 := ⟨_, rfl⟩
      obtain ⟨y2, hy2⟩ : ∃ y2, y2 = (thAt l m).f2 := ⟨_, rfl⟩
      rw [← hfs] at x0 HP HNL
      rw [← hy1] at x1
      rw [← hy2] at x2
      have HFS := Aside0.mk hfs
      clear he ha hp hfs hy1 hy2 hbl hm
      go_wp2_with fail
      refine start_ (n := 10) (S := fun w' => Below w1.heap.size w1 w' ∧ w'.cell? ⟨g, 2, none⟩ = some (.slice (some ⟨q, 0, none⟩) l.length cap) ∧ w'.cell? ⟨w.heap.size, 1, none⟩ = some (.int .i64 (m : Int)) ∧ w'.cell? ⟨q, m * 3, none⟩ = some (.slice A fs.length c) ∧ w'.cell? ⟨q, m * 3 + 1, none⟩ = some (.int .i64 y1) ∧ w'.cell? ⟨q, m * 3 + 2, none⟩ = some (.bool y2)) (ds := [9]) #[false, false, false, false, false, false, false, false, false, false] (by kernel_rfl) rfl rfl ⟨(below_drew (Below.refl _ _)), d2, da, x0, x1, x2⟩ (fun hHeld => ?_)
      refine pure_ (i := 0) (N := some 24) (v := ?_) (a' := ?_) #[true, false, false, false, false, false, false, false, false, false] rfl rfl (by kernel_rfl) (fun _ _ _ h => h) (Or.inl ⟨by rfl, ?_⟩) ?_ ?_
      rotate_left
      · intro w'
        go_simp
        with_reducible rfl
      rotate_left
      · simp only [Act.put, List.setIfInBounds_toArray, List.set_cons_zero, List.set_cons_succ, i64_w, i32_w]
        rfl
      refine pure_ (i := 1) (N := some 25) (v := ?_) (a' := ?_) #[true, true, false, false, false, false, false, false, false, false] rfl rfl (by kernel_rfl) (fun _ _ _ h => h) (Or.inl ⟨by rfl, ?_⟩) ?_ ?_
      rotate_left
      · intro w'
        go_simp
        with_reducible rfl
      rotate_left
      · simp only [Act.put, List.setIfInBounds_toArray, List.set_cons_zero, List.set_cons_succ, i64_w, i32_w]
        rfl
      refine pure_ (i := 2) (N := some 26) (v := ?_) (a' := ?_) #[true, true, true, false, false, false, false, false, false, false] rfl rfl (by kernel_rfl) (fun _ _ _ h => h) (Or.inl ⟨by rfl, ?_⟩) ?_ ?_
      rotate_left
      · intro w'
        go_simp
        with_reducible rfl
      rotate_left
      · simp only [Act.put, List.setIfInBounds_toArray, List.set_cons_zero, List.set_cons_succ, i64_w, i32_w]
        rfl
      refine pure_ (i := 4) (N := some 28) (v := ?_) (a' := ?_) #[true, true, true, false, true, false, false, false, false, false] rfl rfl (by kernel_rfl) (fun _ _ _ h => h) (Or.inl ⟨by rfl, ?_⟩) ?_ ?_
      rotate_left
      · intro w'
        go_simp
        with_reducible rfl
      rotate_left
      · simp only [Act.put, List.setIfInBounds_toArray, List.set_cons_zero, List.set_cons_succ, i64_w, i32_w]
        rfl
      refine take_ (i := 3) (N := some 27) (v := ?_) (a' := ?_) #[true, true, true, true, true, false, false, false, false, false] rfl rfl (by kernel_rfl) (fun _ _ _ h => h) (Or.inl ⟨by rfl, ?_⟩) hHeld ?_ ?_
      rotate_left
      · rintro w' ⟨s0, s1, s2, s3, s4, s5⟩
        go_simp
        with_reducible rfl
      rotate_left
      · simp only [Act.put, List.setIfInBounds_toArray, List.set_cons_zero, List.set_cons_succ, i64_w, i32_w]
        rfl
      refine take_ (i := 5) (N := some 29) (v := ?_) (a' := ?_) #[true, true, true, true, true, true, false, false, false, false] rfl rfl (by kernel_rfl) (fun _ _ _ h => h) (Or.inl ⟨by rfl, ?_⟩) hHeld ?_ ?_
      rotate_left
      · rintro w' ⟨s0, s1, s2, s3, s4, s5⟩
        go_simp
        with_reducible rfl
      rotate_left
      · simp only [Act.put, List.setIfInBounds_toArray, List.set_cons_zero, List.set_cons_succ, i64_w, i32_w]
        rfl
      refine pure_ (i := 6) (N := some 30) (v := ?_) (a' := ?_) #[true, true, true, true, true, true, true, false, false, false] rfl rfl (by kernel_rfl) (fun _ _ _ h => h) (Or.inl ⟨by rfl, ?_⟩) ?_ ?_
      rotate_left
      · intro w'
        go_simp
        with_reducible rfl
      rotate_left
      · simp only [Act.put, List.setIfInBounds_toArray, List.set_cons_zero, List.set_cons_succ, i64_w, i32_w]
        rfl
      refine take_ (i := 7) (N := some 31) (v := ?_) (a' := ?_) #[true, true, true, true, true, true, true, true, false, false] rfl rfl (by kernel_rfl) (fun _ _ _ h => h) (Or.inl ⟨by rfl, ?_⟩) hHeld ?_ ?_
      rotate_left
      · rintro w' ⟨s0, s1, s2, s3, s4, s5⟩
        go_simp
        with_reducible rfl
      rotate_left
      · simp only [Act.put, List.setIfInBounds_toArray, List.set_cons_zero, List.set_cons_succ, i64_w, i32_w]
        rfl
      refine one_ (i := 8) (N := some 7) #[true, true, true, true, true, true, true, true, true, false] rfl rfl (by kernel_rfl) (by decide) (fun K hK => ?_)
      have HW6 := Aside0.mk hHeld.1
      refine value_ (w1 := ?_) (v := ?_) (by rfl) rfl ?_ ?_
      rotate_left 2
      · go_simp
        constructor
        · rfl
        · rfl
      refine hK.out _ _ ⟨hHeld.1.alloc (Nat.le_trans hHeld.1.size (Nat.le_refl _)) _, pw_cell_below (below_alloc (Below.refl _ _) _) hHeld.2.1, pw_cell_below (below_alloc (Below.refl _ _) _) hHeld.2.2.1, pw_cell_below (below_alloc (Below.refl _ _) _) hHeld.2.2.2.1, pw_cell_below (below_alloc (Below.refl _ _) _) hHeld.2.2.2.2.1, pw_cell_below (below_alloc (Below.refl _ _) _) hHeld.2.2.2.2.2⟩ (fun hHeld => ?_)
      clear hK K
      refine norm_ (a' := ?_) ?_ ?_
      rotate_left
      · show Act.put _ (some 7) _ = _
        simp only [Act.put, List.setIfInBounds_toArray, List.set_cons_zero, List.set_cons_succ, i64_w, i32_w]
        rfl
      refine last_ (i := 9) (N := none) #[true, true, true, true, true, true, true, true, true, true] rfl rfl (by kernel_rfl) (by decide) (fun K hK => ?_)
      refine skip_ (w1 := ?_) (by rfl) rfl ?_ ?_
      rotate_left
      · go_simp
        rfl
      refine hK.out _ _ ?_
      clear hK K
      refine done_ (by kernel_rfl) ?_
      generalize hW2 : World.drew (World.alloc _ _) = W2
      have hX2 : W2.heap[w1.heap.size]? = some (.cells #[.slice A fs.length c, .int .i64 y1, .bool y2] 78 (0, 0)) := by rw [← hW2]; exact blk_drew (blk_new w1 _)
      have hb2 : Below w1.heap.size w1 W2 := by rw [← hW2]; exact below_drew (below_alloc (Below.refl _ _) _)
      have HX2 := Aside0.mk hX2
      have HB2 : Aside0 (Below w.heap.size w W2) := ⟨below_step HB1.out hb2⟩
      have HM2 := Aside0.mk (HM1.out.below hb2)
      have HD2 := Aside0.mk (blk_below HD1.out hb2)
      have dn : W2.cell? ⟨w.heap.size, 3, none⟩ = some (.int .i64 n) := (blk_cell HD2.out 3).trans rfl
      have db : W2.cell? ⟨w.heap.size, 2, none⟩ = some (.int .i64 b) := (blk_cell HD2.out 2).trans rfl
      have dx : W2.cell? ⟨w1.heap.size, 0, none⟩ = some (.slice A fs.length c) := (blk_cell HX2.out 0).trans rfl
      have dk := HM2.out.c0
      have HWS : Aside0 (∀ k, ok k → k ≠ w.heap.size) := ⟨fun k hk e => by have := HK.out k hk; omega⟩
      have HWS2 : Aside0 (∀ k, ok k → k ≠ w1.heap.size) := ⟨fun k hk e => by have := HK.out k hk; have := HB1.out.size; omega⟩
      clear hW2 hX2 hb2 x0 x1 x2 d2 da
      by_cases hn0 : n < 0
      · have hd0 : decide (n < 0) = true := decide_eq_true hn0
        have HE : Aside0 (setL kind mk l m b n = (l, 1)) := ⟨by unfold setL; rw [if_pos HE0.out, if_pos (.inl hn0)]⟩
        clear hn0
        go_wp2_with fail
        go_ret
        rw [HE.out]
        exact ⟨rfl, HM2.out, Fr.of_below HB2.out⟩
      · have hd0 : decide (n < 0) = false := decide_eq_false hn0
        by_cases hn1 : (fs.length : Int) ≤ n
        · have hd1 : decide ((fs.length : Int) ≤ n) = true := decide_eq_true hn1
          have HE : Aside0 (setL kind mk l m b n = (l, 1)) := ⟨by unfold setL; rw [if_pos HE0.out, if_pos (.inr (by rw [Int.toNat_natCast, ← HFS.out]; exact hn1))]⟩
          clear hn0 hn1
          go_wp2_with fail
          go_ret
          rw [HE.out]
          exact ⟨rfl, HM2.out, Fr.of_below HB2.out⟩
        · have hd1 : decide ((fs.length : Int) ≤ n) = false := decide_eq_false hn1
          obtain ⟨j, rfl⟩ : ∃ j : Nat, n = j := ⟨n.toNat, by omega⟩
          have hj : j < fs.length := by omega
          have HJL := Aside0.mk hj
          have HE : Aside0 (setL kind mk l m b j = (putL (shadeL mk (oldOf kind l m b j) l) m j b, 0)) := ⟨by unfold setL; rw [if_pos HE0.out, if_neg (by rw [Int.toNat_natCast, ← HFS.out]; omega), Int.toNat_natCast, Int.toNat_natCast]⟩
          have hC := HM2.out.atC HML.out HP.out HFS.out.symm
          obtain ⟨pb, eA, _⟩ := placeForm (HM2.out.pl m HML.out) (A := A) (n := fs.length) (c := c) (by have h_ := HP.out; rw [List.getElem?_eq_getElem (by have := HM2.out.len; have := HML.out; omega)] at h_; exact Option.some.inj h_) (by rw [← thAt_eq HML.out, ← HFS.out]; omega)
          subst eA
          have hx := (Kd.at_int hC (j : Int) (by omega) (by omega))
          obtain ⟨ad, e_, hx⟩ := hx
          injection e_ with e_
          subst e_
          rw [Int.toNat_natCast, rdI hj, add_plain] at hx
          have hold : oldOf kind l m b j = if kind = 1 then b else fs[j] := by unfold oldOf; rw [Int.toNat_natCast, Int.toNat_natCast, ← HFS.out]; simp [List.getD_eq_getElem?_getD, hj]
          have hin : fs[j] < (l.length : Int) := by
            have h_ := (HO.out.pl _ (List.getElem_mem HML.out)).2
            rw [← thAt_eq HML.out, ← HFS.out] at h_
            exact h_ _ (List.getElem_mem hj)
          have hj0 : (0 : Int) ≤ (j : Int) := by omega
          have hj1 : (j : Int) < (fs.length : Int) := by omega
          have hpok : ok pb := HM2.out.pok _ (List.mem_of_getElem? HP.out) pb rfl
          have HPOK := Aside0.mk hpok
          by_cases hk : kind = 1
          · rw [if_pos hk] at hold
            rw [hold] at HE
            have hbk : (kind == 1) = true := by simpa using hk
            have HSH := Aside0.mk (shade_calls W2 b HM2.out HBL.out)
            have HHA := Aside0.mk (shadeL_has mk b l)
            generalize shadeL mk b l = l1 at HE HSH HHA
            generalize fs[j] = y at hx hin
            clear hn0 hn1 hC hold hin hpok hj hk
            go_wp2_with fail
            refine HSH.out.mono ?_
            rintro e w3 ⟨rfl, hm3, hf3⟩
            have en : w3.cell? ⟨w.heap.size, 3, none⟩ = some (.int .i64 (j : Int)) := hf3.cell dn (fun h_ => HWS.out _ h_ rfl)
            have eb : w3.cell? ⟨w.heap.size, 2, none⟩ = some (.int .i64 b) := hf3.cell db (fun h_ => HWS.out _ h_ rfl)
            have ex : w3.cell? ⟨w1.heap.size, 0, none⟩ = some (.slice (some ⟨pb, 0, none⟩) fs.length c) := hf3.cell dx (fun h_ => HWS2.out _ h_ rfl)
            have hl1 := hasL_len HHA.out
            have hf0 : (thAt l1 m).f0 = fs := by rw [hasL_at HHA.out, HFS.out]
            have hC3 := hm3.atC (by rw [hl1]; exact HML.out) HP.out hf0
            obtain ⟨ad, e_, hx3⟩ := Kd.at_int hC3 (j : Int) (by omega) (by omega)
            injection e_ with e_
            subst e_
            rw [Int.toNat_natCast, add_plain] at hx3
            have hz3 : w3.frozen? ⟨pb, j, none⟩ = false := by
              have hr := hm3.pl m (by rw [hl1]; exact HML.out)
              have h_ := HP.out
              rw [List.getElem?_eq_getElem (by have := HM2.out.len; have := HML.out; omega)] at h_
              unfold placeRow at hr
              rw [Option.some.inj h_, ← thAt_eq (by rw [hl1]; exact HML.out), hf0] at hr
              exact World.ownsRow.frozenAt hr j
            have HPUT := Aside0.mk (hm3.putL m (by rw [hl1]; exact HML.out) HP.out (by rw [hf0]) j b)
            have HF3 := Aside0.mk hf3
            clear hm3 hf3 hC3 dn db dx dk hl1 hf0 hx
            go_wp2_with fail
            go_ret
            rw [HE.out]
            exact ⟨rfl, HPUT.out, ((Fr.of_below HB2.out).trans HF3.out).set (.inl HPOK.out) _⟩
          · rw [if_neg hk] at hold
            rw [hold] at HE
            have hbk : (kind == 1) = false := by simpa using hk
            have HSH := Aside0.mk (shade_calls W2 fs[j] HM2.out hin)
            have HHA := Aside0.mk (shadeL_has mk fs[j] l)
            generalize fs[j] = y at hx HE HSH HHA
            generalize shadeL mk y l = l1 at HE HSH HHA
            clear hn0 hn1 hC hold hin hpok hj hk
            go_wp2_with fail
            refine HSH.out.mono ?_
            rintro e w3 ⟨rfl, hm3, hf3⟩
            have en : w3.cell? ⟨w.heap.size, 3, none⟩ = some (.int .i64 (j : Int)) := hf3.cell dn (fun h_ => HWS.out _ h_ rfl)
            have eb : w3.cell? ⟨w.heap.size, 2, none⟩ = some (.int .i64 b) := hf3.cell db (fun h_ => HWS.out _ h_ rfl)
            have ex : w3.cell? ⟨w1.heap.size, 0, none⟩ = some (.slice (some ⟨pb, 0, none⟩) fs.length c) := hf3.cell dx (fun h_ => HWS2.out _ h_ rfl)
            have hl1 := hasL_len HHA.out
            have hf0 : (thAt l1 m).f0 = fs := by rw [hasL_at HHA.out, HFS.out]
            have hC3 := hm3.atC (by rw [hl1]; exact HML.out) HP.out hf0
            obtain ⟨ad, e_, hx3⟩ := Kd.at_int hC3 (j : Int) (by omega) (by omega)
            injection e_ with e_
            subst e_
            rw [Int.toNat_natCast, add_plain] at hx3
            have hz3 : w3.frozen? ⟨pb, j, none⟩ = false := by
              have hr := hm3.pl m (by rw [hl1]; exact HML.out)
              have h_ := HP.out
              rw [List.getElem?_eq_getElem (by have := HM2.out.len; have := HML.out; omega)] at h_
              unfold placeRow at hr
              rw [Option.some.inj h_, ← thAt_eq (by rw [hl1]; exact HML.out), hf0] at hr
              exact World.ownsRow.frozenAt hr j
            have HPUT := Aside0.mk (hm3.putL m (by rw [hl1]; exact HML.out) HP.out (by rw [hf0]) j b)
            have HF3 := Aside0.mk hf3
            clear hm3 hf3 hC3 dn db dx dk hl1 hf0 hx
            go_wp2_with fail
            go_ret
            rw [HE.out]
            exact ⟨rfl, HPUT.out, ((Fr.of_below HB2.out).trans HF3.out).set (.inl HPOK.out) _⟩
    · have HE : Aside0 (setL kind mk l a b n = (l, namedE l (nsOf a b))) := ⟨by unfold setL; rw [if_neg he]⟩
      have hbe : (namedE l (nsOf a b) == 0) = false := by simpa using he
      generalize namedE l (nsOf a b) = ee at HE hbe ⊢
      clear he
      go_wp2_with fail
      go_ret
      rw [HE.out]
      exact ⟨rfl, HM1.out, Fr.of_below HB1.out⟩
end Go.Proofs.Ytnimidkeoocchaa.Mrk
