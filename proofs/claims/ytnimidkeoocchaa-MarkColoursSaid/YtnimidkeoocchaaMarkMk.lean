/- Package mark: make walked. -/
import Derived.Test.YtnimidkeoocchaaMarkSe
set_option linter.unusedVariables false
set_option linter.unusedSimpArgs false
namespace Go.Proofs.Ytnimidkeoocchaa.Mrk
open Go.RowKit Go.Proofs.YtnimidkeoocchaaW.PrintWords Go.Proofs.YtnimidkeoocchaaW.PrintLast Go.Proofs.YtnimidkeoocchaaW.PrintMore Go.Proofs.Ytnimidkeoocchaa.PK Go.Proofs.Ytnimidkeoocchaa.Hnd Go.Proofs.Ytnimidkeoocchaa.Rch

def newTh (mk : Bool) (n : Int) : Th := ⟨List.replicate n.toNat (-1), if mk = true then 2 else 0, true⟩
def makeL (mk : Bool) (l : List Th) (n : Int) : List Th × Int × Int :=
  if n < 0 ∨ n > 10 then (l, 0, 1) else if 100 ≤ l.length then (l, 0, 2) else (l ++ [newTh mk n], (l.length : Int), 0)
theorem info_th : (Try.prog.info? 78).map (fun i => (i.zero, i.size, i.bytes)) = some (some (.agg #[.slice none 0 0, .int .i64 0, .bool false]), 3, 40) := by kernel_rfl
theorem Sep.snoc {ps : List Value} {p : Value} (h : Sep ps) (hn : ∀ q ∈ ps, ∀ k, q.ownBlock = some k → p.ownBlock ≠ some k) : Sep (ps ++ [p]) := by
  intro i j hi hj hne k hk
  simp only [List.length_append, List.length_cons, List.length_nil] at hi hj
  rcases Nat.lt_or_ge i ps.length with h1 | h1
  · rw [List.getElem_append_left h1] at hk
    rcases Nat.lt_or_ge j ps.length with h2 | h2
    · rw [List.getElem_append_left h2]; exact h i j h1 h2 hne k hk
    · rw [List.getElem_append_right h2]
      simp only [List.getElem_singleton]
      exact hn _ (List.getElem_mem h1) k hk
  · rw [List.getElem_append_right h1] at hk
    simp only [List.getElem_singleton] at hk
    have h2 : j < ps.length := by omega
    rw [List.getElem_append_left h2]
    exact fun e => hn _ (List.getElem_mem h2) k e hk
theorem MS.snoc {W w7 : World} {ok ok' : Nat → Prop} {g : Nat} {kind : Int} {mk : Bool} {v v7 p : Value} {ps : List Value} {l : List Th} {x : Th} (h : MS W ok g kind mk v ps l) (hp : placeRow W p x.f0) (hpn : ∀ k, p.ownBlock = some k → ¬ ok k)
    (hr : w7.ownsRow 0 78 3 v7 (l.length + 1) (cellsT ps l ++ [p, .int .i64 x.f1, .bool x.f2])) (hg : W.grownBy w7 v.ownBlock) (hat : v7.ownBlock = v.ownBlock ∨ ∃ b, v7.ownBlock = some b ∧ W.heap.size ≤ b)
    (hok : ∀ k, ok k ∨ W.heap.size ≤ k ∨ p.ownBlock = some k → ok' k) : MS (w7.setCell ⟨g, 2, none⟩ v7) ok' g kind mk v7 (ps ++ [p]) (l ++ [x]) := by
  have hvg : some g ≠ v.ownBlock := fun e => h.v_g g e.symm rfl
  have hob := blk_grown h.obj hg hvg
  have hne : ∀ k, k ≠ g → (w7.setCell ⟨g, 2, none⟩ v7).heap[k]? = w7.heap[k]? := fun k hk => heap_setCell_other w7 _ k _ hk
  have hpg : ∀ k, p.ownBlock = some k → k ≠ g := fun k hk e => hpn k hk (e ▸ h.gok)
  have hpl : ∀ i (hi : i < l.length), placeRow (w7.setCell ⟨g, 2, none⟩ v7) (ps[i]'(by have := h.len; omega)) l[i].f0 := fun i hi => by
    refine own_same (h.pl i hi) (fun k hk => (hne k (h.p_g i hi k hk).1).trans (hg.block k ((h.pl i hi).lt k hk).2 (fun e => (h.p_g i hi k hk).2 e.symm)))
  refine ⟨hok _ (.inl h.gok), ?_, ?_, by simp [h.len], fun i hi => ?_, fun k hk => ?_, fun q hq k hk => ?_, ?_⟩
  · simpa using blk_set hob 2 v7
  · rw [List.length_append, cellsT_snoc ps l p x h.len]
    refine own_same hr (fun k hk => hne k (fun e => ?_))
    obtain ⟨cur, hc⟩ := own_ty hr k hk
    exact blk_ne hc hob (by decide) e
  · rcases Nat.lt_or_ge i l.length with h1 | h1
    · rw [List.getElem_append_left h1, List.getElem_append_left (by have := h.len; omega)]
      exact hpl i h1
    · have e : i = l.length := by simp at hi; omega
      subst e
      have e1 : (l ++ [x])[l.length]'hi = x := by simp
      have e2 : (ps ++ [p])[l.length]'(by simp [h.len]) = p := by
        rw [List.getElem_append_right (by have := h.len; omega)]; simp [h.len]
      rw [e1, e2]
      refine own_same hp (fun k hk => (hne k (hpg k hk)).trans (hg.block k (hp.lt k hk).2 (fun e => hpn k hk (h.vok k e.symm))))
  · rcases hat with h1 | ⟨b, h1, h2⟩
    · exact hok k (.inl (h.vok k (h1 ▸ hk)))
    · rw [h1] at hk; injection hk with hk; subst hk; exact hok _ (.inr (.inl h2))
  · rcases List.mem_append.1 hq with h1 | h1
    · exact hok k (.inl (h.pok q h1 k hk))
    · simp at h1; subst h1; exact hok k (.inr (.inr hk))
  · exact h.sep.snoc (fun q hq k hk e => hpn k e (h.pok q hq k hk))
set_option maxHeartbeats 16000000 in
set_option maxRecDepth 100000 in
theorem make_calls (w : World) {ok : Nat → Prop} {g : Nat} {kind : Int} {mk : Bool} {v : Value} {ps : List Value} {l : List Th} (h : MS w ok g kind mk v ps l) (hok : ∀ k, ok k → k < w.heap.size) (n : Int) :
    Calls Try.prog 47 #[.pointer (some ⟨g, 0, none⟩), .int .i64 n] w fun e w' => e = .returned (.tuple #[.int .i64 (makeL mk l n).2.1, .int .i64 (makeL mk l n).2.2]) ∧ (∃ v' ps', MS w' (fun k => ok k ∨ w.heap.size ≤ k) g kind mk v' ps' (makeL mk l n).1) ∧ Fr ok w w' := by
  have HM := Aside0.mk h
  have HK := Aside0.mk hok
  have c2 := h.c2
  obtain ⟨AV, cV, ev, hcv⟩ := own_shape h.row
  subst ev
  clear h hok
  by_cases h0 : n < 0
  · have HE : Aside0 (makeL mk l n = (l, 0, 1)) := ⟨by unfold makeL; rw [if_pos (.inl h0)]⟩
    have hd0 : decide (n < 0) = true := decide_eq_true h0
    clear h0
    go_enter Try.func47, Try.ntmps47
    go_wp2_with fail
    go_ret2
    rw [HE.out]
    exact ⟨rfl, ⟨_, _, HM.out.mono (fun k hk => .inl hk)⟩, Fr.refl _ _⟩
  · have hd0 : decide (n < 0) = false := decide_eq_false h0
    by_cases h1 : 10 < n
    · have HE : Aside0 (makeL mk l n = (l, 0, 1)) := ⟨by unfold makeL; rw [if_pos (.inr h1)]⟩
      have hd1 : decide (10 < n) = true := decide_eq_true h1
      clear h0 h1
      go_enter Try.func47, Try.ntmps47
      go_wp2_with fail
      go_ret2
      rw [HE.out]
      exact ⟨rfl, ⟨_, _, HM.out.mono (fun k hk => .inl hk)⟩, Fr.refl _ _⟩
    · have hd1 : decide (10 < n) = false := decide_eq_false h1
      by_cases h2 : 100 ≤ l.length
      · have HE : Aside0 (makeL mk l n = (l, 0, 2)) := ⟨by unfold makeL; rw [if_neg (by omega), if_pos h2]⟩
        have hd2 : decide ((100 : Int) ≤ (l.length : Int)) = true := decide_eq_true (by omega)
        have hd3 : decide (100 ≤ l.length) = true := decide_eq_true h2
        clear h0 h1 h2
        go_enter Try.func47, Try.ntmps47
        go_wp2_with fail
        go_ret2
        rw [HE.out]
        exact ⟨rfl, ⟨_, _, HM.out.mono (fun k hk => .inl hk)⟩, Fr.refl _ _⟩
      · have HE : Aside0 (makeL mk l n = (l ++ [newTh mk n], (l.length : Int), 0)) := ⟨by unfold makeL; rw [if_neg (by omega), if_neg h2]⟩
        have hd2 : decide ((100 : Int) ≤ (l.length : Int)) = false := decide_eq_false (by omega)
        have hd3 : decide (100 ≤ l.length) = false := decide_eq_false h2
        have HL : Aside0 (l.length < 100) := ⟨by omega⟩
        obtain ⟨m, rfl⟩ : ∃ m : Nat, n = m := ⟨n.toNat, by omega⟩
        have hbx := below_alloc (Below.refl w.heap.size w) (Obj.cells #[.int .i64 (-1)] 3)
        have HBX := Aside0.mk hbx
        have HCALL := Aside0.mk (repeat_calls (w.alloc (Obj.cells #[.int .i64 (-1)] 3)) w.heap.size m (blk_new _ _) (by omega))
        have HU74 := Try.underlying74
        have hMF : newTh mk (m : Int) = ⟨List.replicate m (-1), if mk = true then 2 else 0, true⟩ := by unfold newTh; rw [Int.toNat_natCast]
        rw [hMF] at HE
        clear h0 h1 h2 hbx hMF
        go_enter Try.func47, Try.ntmps47
        go_wp2_with fail
        refine HCALL.out.mono ?_
        rintro e w1 ⟨p, rfl, hpr, hb⟩
        have HB1 : Aside0 (Below w.heap.size w w1) := ⟨below_step HBX.out hb⟩
        have HPB : Aside0 (∀ k, p.ownBlock = some k → w.heap.size ≤ k) := ⟨fun k hk => by have h_ := (hpr.lt k hk).1; rw [blk_size] at h_; omega⟩
        have HPR : Aside0 (placeRow w1 p (List.replicate m (-1))) := ⟨by have h_ := own_lower hpr (Nat.zero_le _); unfold placeRow; rw [List.length_replicate]; exact h_⟩
        obtain ⟨AP, cP, eP, hcP⟩ := own_shape hpr
        subst eP
        have hM1 := HM.out.below HB1.out
        have c1 := hM1.c1
        clear hpr hb hM1
        obtain ⟨W3, hW3⟩ : ∃ W3, W3 = w1.alloc (Obj.cells #[.slice AP m cP, .int .i64 (if mk = true then 2 else 0), .bool true] 78) := ⟨_, rfl⟩
        have hb3 : Below w1.heap.size w1 W3 := by rw [hW3]; exact below_alloc (Below.refl _ _) _
        have HX3 : Aside0 (W3.heap[w1.heap.size]? = some (.cells #[.slice AP m cP, .int .i64 (if mk = true then 2 else 0), .bool true] 78 (0, 0))) := ⟨by rw [hW3]; exact blk_new _ _⟩
        have HB3 : Aside0 (Below w.heap.size w W3) := ⟨below_step HB1.out hb3⟩
        have HM3 := Aside0.mk (HM.out.below HB3.out)
        have HP3 : Aside0 (placeRow W3 (.slice AP m cP) (List.replicate m (-1))) := ⟨own_same HPR.out (fun k hk => hb3.block k (HPR.out.lt k hk).2)⟩
        have d2 := HM3.out.c2
        have y0 : W3.cell? ⟨w1.heap.size, 0, none⟩ = some (.slice AP m cP) := (blk_cell HX3.out 0).trans rfl
        have y1 : W3.cell? ⟨w1.heap.size, 1, none⟩ = some (.int .i64 (if mk = true then 2 else 0)) := (blk_cell HX3.out 1).trans rfl
        have y2 : W3.cell? ⟨w1.heap.size, 2, none⟩ = some (.bool true) := (blk_cell HX3.out 2).trans rfl
        have HSZ : Aside0 (W3.heap.size = w1.heap.size + 1) := ⟨by rw [hW3]; exact blk_size⟩
        cases mk with
        | false =>
          simp only [Bool.false_eq_true, if_false] at hW3 HX3 y1 HE
          have c1' : (w1.alloc (Obj.cells #[.slice AP m cP, .int .i64 0, .bool true] 78)).cell? ⟨g, 1, none⟩ = some (.bool false) := pw_cell_below (below_alloc (Below.refl _ _) _) c1
          have HW3E := Aside0.mk hW3.symm
          clear hb3 hW3
          go_wp2_with fail
          rw [HW3E.out]
          clear HW3E
          refine start_ (n := 11) (S := fun w' => Below W3.heap.size W3 w' ∧ w'.cell? ⟨g, 2, none⟩ = some (.slice AV l.length cV) ∧ w'.cell? ⟨w1.heap.size, 0, none⟩ = some (.slice AP m cP) ∧ w'.cell? ⟨w1.heap.size, 1, none⟩ = some (.int .i64 0) ∧ w'.cell? ⟨w1.heap.size, 2, none⟩ = some (.bool true)) (ds := [7, 10]) #[false, false, false, false, false, false, false, false, false, false, false] (by kernel_rfl) rfl rfl ⟨(below_drew (Below.refl _ _)), d2, y0, y1, y2⟩ (fun hHeld => ?_)
          refine pure_ (i := 0) (N := some 30) (v := ?_) (a' := ?_) #[true, false, false, false, false, false, false, false, false, false, false] rfl rfl (by kernel_rfl) (fun _ _ _ h => h) (Or.inl ⟨by rfl, ?_⟩) ?_ ?_
          rotate_left
          · intro w'
            go_simp
            with_reducible rfl
          rotate_left
          · simp only [Act.put, List.setIfInBounds_toArray, List.set_cons_zero, List.set_cons_succ, i64_w, i32_w]
            rfl
          refine pure_ (i := 1) (N := some 31) (v := ?_) (a' := ?_) #[true, true, false, false, false, false, false, false, false, false, false] rfl rfl (by kernel_rfl) (fun _ _ _ h => h) (Or.inl ⟨by rfl, ?_⟩) ?_ ?_
          rotate_left
          · intro w'
            go_simp
            with_reducible rfl
          rotate_left
          · simp only [Act.put, List.setIfInBounds_toArray, List.set_cons_zero, List.set_cons_succ, i64_w, i32_w]
            rfl
          refine pure_ (i := 2) (N := some 32) (v := ?_) (a' := ?_) #[true, true, true, false, false, false, false, false, false, false, false] rfl rfl (by kernel_rfl) (fun _ _ _ h => h) (Or.inl ⟨by rfl, ?_⟩) ?_ ?_
          rotate_left
          · intro w'
            go_simp
            with_reducible rfl
          rotate_left
          · simp only [Act.put, List.setIfInBounds_toArray, List.set_cons_zero, List.set_cons_succ, i64_w, i32_w]
            rfl
          refine pure_ (i := 3) (N := some 33) (v := ?_) (a' := ?_) #[true, true, true, true, false, false, false, false, false, false, false] rfl rfl (by kernel_rfl) (fun _ _ _ h => h) (Or.inl ⟨by rfl, ?_⟩) ?_ ?_
          rotate_left
          · intro w'
            go_simp
            with_reducible rfl
          rotate_left
          · simp only [Act.put, List.setIfInBounds_toArray, List.set_cons_zero, List.set_cons_succ, i64_w, i32_w]
            rfl
          refine take_ (i := 4) (N := some 34) (v := ?_) (a' := ?_) #[true, true, true, true, true, false, false, false, false, false, false] rfl rfl (by kernel_rfl) (fun _ _ _ h => h) (Or.inl ⟨by rfl, ?_⟩) hHeld ?_ ?_
          rotate_left
          · rintro w' ⟨s0, s1, s2, s3, s4⟩
            go_simp
            with_reducible rfl
          rotate_left
          · simp only [Act.put, List.setIfInBounds_toArray, List.set_cons_zero, List.set_cons_succ, i64_w, i32_w]
            rfl
          refine take_ (i := 5) (N := some 35) (v := ?_) (a' := ?_) #[true, true, true, true, true, true, false, false, false, false, false] rfl rfl (by kernel_rfl) (fun _ _ _ h => h) (Or.inl ⟨by rfl, ?_⟩) hHeld ?_ ?_
          rotate_left
          · rintro w' ⟨s0, s1, s2, s3, s4⟩
            go_simp
            with_reducible rfl
          rotate_left
          · simp only [Act.put, List.setIfInBounds_toArray, List.set_cons_zero, List.set_cons_succ, i64_w, i32_w]
            rfl
          refine one_ (i := 6) (N := some 36) #[true, true, true, true, true, true, true, false, false, false, false] rfl rfl (by kernel_rfl) (by decide) (fun K hK => ?_)
          have HW6 := Aside0.mk hHeld.1
          refine value_ (w1 := ?_) (v := ?_) (by rfl) rfl ?_ ?_
          rotate_left 2
          · go_simp
            constructor
            · rfl
            · rfl
          refine hK.out _ _ ⟨hHeld.1.alloc (Nat.le_trans hHeld.1.size (Nat.le_refl _)) _, pw_cell_below (below_alloc (Below.refl _ _) _) hHeld.2.1, pw_cell_below (below_alloc (Below.refl _ _) _) hHeld.2.2.1, pw_cell_below (below_alloc (Below.refl _ _) _) hHeld.2.2.2.1, pw_cell_below (below_alloc (Below.refl _ _) _) hHeld.2.2.2.2⟩ (fun hHeld => ?_)
          clear hK K
          refine norm_ (a' := ?_) ?_ ?_
          rotate_left
          · show Act.put _ (some 36) _ = _
            simp only [Act.put, List.setIfInBounds_toArray, List.set_cons_zero, List.set_cons_succ, i64_w, i32_w]
            rfl
          refine last_ (i := 7) (N := some 37) #[true, true, true, true, true, true, true, true, false, false, false] rfl rfl (by kernel_rfl) (by decide) (fun K hK => ?_)
          refine step_append_cells (w0 := w) 0 (by rfl) (.tmp 34) (.tmp 36) 74 78 (.agg #[.slice none 0 0, .int .i64 0, .bool false]) 3 40 rfl HU74 info_th rfl (by decide) (by decide) (.slice AV l.length cV) l.length (cellsT ps l) [.slice AP m cP, .int .i64 0, .bool true] rfl rfl rfl (by intro u hu; simp at hu; rcases hu with rfl | rfl | rfl <;> rfl) (HM3.out.below HW6.out).row (below_cut (HB3.out.trans (below_cut HW6.out HB3.out.size)) (Nat.zero_le _)) (Nat.zero_le _) (by have h_ := HL.out; omega) ?_
          intro v7 w7 ho7 hb7 hg7 hat7
          obtain ⟨A7, c7, e7, hc7⟩ := own_shape ho7
          subst e7
          have HO7 := Aside0.mk ho7
          have HG7 := Aside0.mk hg7
          have HAT7 := Aside0.mk hat7
          have HMB := Aside0.mk (blk_grown (HM3.out.below HW6.out).obj hg7 (fun e_ => (HM3.out.below HW6.out).v_g g e_.symm rfl))
          clear ho7 hb7 hg7 hat7 hc7
          refine hK.out _ _ ?_
          clear hK K
          refine norm_ (a' := ?_) ?_ ?_
          rotate_left
          · show Act.put _ (some 37) _ = _
            simp only [Act.put, List.setIfInBounds_toArray, List.set_cons_zero, List.set_cons_succ, i64_w, i32_w]
            rfl
          refine pure_ (i := 8) (N := some 38) (v := ?_) (a' := ?_) #[true, true, true, true, true, true, true, true, true, false, false] rfl rfl (by kernel_rfl) (fun _ _ _ h => h) (Or.inl ⟨by rfl, ?_⟩) ?_ ?_
          rotate_left
          · intro w'
            go_simp
            with_reducible rfl
          rotate_left
          · simp only [Act.put, List.setIfInBounds_toArray, List.set_cons_zero, List.set_cons_succ, i64_w, i32_w]
            rfl
          refine pure_ (i := 9) (N := some 39) (v := ?_) (a' := ?_) #[true, true, true, true, true, true, true, true, true, true, false] rfl rfl (by kernel_rfl) (fun _ _ _ h => h) (Or.inl ⟨by rfl, ?_⟩) ?_ ?_
          rotate_left
          · intro w'
            go_simp
            with_reducible rfl
          rotate_left
          · simp only [Act.put, List.setIfInBounds_toArray, List.set_cons_zero, List.set_cons_succ, i64_w, i32_w]
            rfl
          refine last_ (i := 10) (N := none) #[true, true, true, true, true, true, true, true, true, true, true] rfl rfl (by kernel_rfl) (by decide) (fun K hK => ?_)
          have hd7 : w7.cell? ⟨g, 2, none⟩ = some (.slice AV l.length cV) := (blk_cell HMB.out 2).trans rfl
          have hf7 : w7.frozen? ⟨g, 2, none⟩ = false := blk_frozen HMB.out 2
          refine skip_ (w1 := ?_) (by rfl) rfl ?_ ?_
          rotate_left
          · go_simp
            rfl
          refine hK.out _ _ ?_
          clear hK K
          refine done_ (by kernel_rfl) ?_
          generalize hw8 : World.setCell w7 _ _ = w8
          have HM8 : Aside0 (MS w8 (fun k => ok k ∨ w.heap.size ≤ k) g kind false (.slice A7 (l.length + 1) c7) (ps ++ [.slice AP m cP]) (l ++ [⟨List.replicate m (-1), 0, true⟩])) := ⟨by
            rw [← hw8]
            refine MS.snoc (x := ⟨List.replicate m (-1), 0, true⟩) (HM3.out.below HW6.out) (own_same HP3.out (fun k hk => HW6.out.block k (HP3.out.lt k hk).2)) (fun k hk ho_ => by have h1_ := HPB.out k hk; have h2_ := HK.out k ho_; omega) HO7.out HG7.out HAT7.out (fun k hk => ?_)
            rcases hk with hk | hk | hk
            · exact .inl hk
            · exact .inr (Nat.le_trans HB3.out.size (Nat.le_trans HW6.out.size hk))
            · exact .inr (HPB.out k hk)⟩
          have HF8 : Aside0 (Fr ok w w8) := ⟨by
            rw [← hw8]
            exact ((Fr.of_below (HB3.out.trans (below_cut HW6.out HB3.out.size))).grown HG7.out (fun k hk => .inl (HM.out.vok k hk))).set (.inl HM.out.gok) _⟩
          have e2 := HM8.out.c2
          have hlw : IntKind.i64.wrap (((l.length + 1 : Nat) : Int) - 1) = (l.length : Int) := by have := HL.out; rw [IntKind.wrap_i64]; omega
          have HLW : Aside0 (wrap64 (((l.length + 1 : Nat) : Int) - 1) = (l.length : Int)) := ⟨by have := HL.out; unfold wrap64; omega⟩
          have HLW3 : Aside0 (wrap64 (l.length : Int) = (l.length : Int)) := ⟨by have := HL.out; unfold wrap64; omega⟩
          have HLW2 : Aside0 (wrap64 ((l.length : Int) + 1 - 1) = (l.length : Int)) := ⟨by have := HL.out; unfold wrap64; omega⟩
          clear hw8 hd7 hf7 d2 y0 y1 y2 hlw
          go_wp2_with fail
          go_ret2
          rw [HE.out]
          refine ⟨?_, ⟨_, _, HM8.out⟩, HF8.out⟩
          first | rfl | (rw [HLW3.out]; rfl)
        | true =>
          simp only [if_true] at hW3 HX3 y1 HE
          have c1' : (w1.alloc (Obj.cells #[.slice AP m cP, .int .i64 0, .bool true] 78)).cell? ⟨g, 1, none⟩ = some (.bool true) := pw_cell_below (below_alloc (Below.refl _ _) _) c1
          have HW3E := Aside0.mk hW3.symm
          clear hb3 hW3
          go_wp2_with fail
          rw [HW3E.out]
          clear HW3E
          refine start_ (n := 11) (S := fun w' => Below W3.heap.size W3 w' ∧ w'.cell? ⟨g, 2, none⟩ = some (.slice AV l.length cV) ∧ w'.cell? ⟨w1.heap.size, 0, none⟩ = some (.slice AP m cP) ∧ w'.cell? ⟨w1.heap.size, 1, none⟩ = some (.int .i64 2) ∧ w'.cell? ⟨w1.heap.size, 2, none⟩ = some (.bool true)) (ds := [7, 10]) #[false, false, false, false, false, false, false, false, false, false, false] (by kernel_rfl) rfl rfl ⟨(below_drew (Below.refl _ _)), d2, y0, y1, y2⟩ (fun hHeld => ?_)
          refine pure_ (i := 0) (N := some 30) (v := ?_) (a' := ?_) #[true, false, false, false, false, false, false, false, false, false, false] rfl rfl (by kernel_rfl) (fun _ _ _ h => h) (Or.inl ⟨by rfl, ?_⟩) ?_ ?_
          rotate_left
          · intro w'
            go_simp
            with_reducible rfl
          rotate_left
          · simp only [Act.put, List.setIfInBounds_toArray, List.set_cons_zero, List.set_cons_succ, i64_w, i32_w]
            rfl
          refine pure_ (i := 1) (N := some 31) (v := ?_) (a' := ?_) #[true, true, false, false, false, false, false, false, false, false, false] rfl rfl (by kernel_rfl) (fun _ _ _ h => h) (Or.inl ⟨by rfl, ?_⟩) ?_ ?_
          rotate_left
          · intro w'
            go_simp
            with_reducible rfl
          rotate_left
          · simp only [Act.put, List.setIfInBounds_toArray, List.set_cons_zero, List.set_cons_succ, i64_w, i32_w]
            rfl
          refine pure_ (i := 2) (N := some 32) (v := ?_) (a' := ?_) #[true, true, true, false, false, false, false, false, false, false, false] rfl rfl (by kernel_rfl) (fun _ _ _ h => h) (Or.inl ⟨by rfl, ?_⟩) ?_ ?_
          rotate_left
          · intro w'
            go_simp
            with_reducible rfl
          rotate_left
          · simp only [Act.put, List.setIfInBounds_toArray, List.set_cons_zero, List.set_cons_succ, i64_w, i32_w]
            rfl
          refine pure_ (i := 3) (N := some 33) (v := ?_) (a' := ?_) #[true, true, true, true, false, false, false, false, false, false, false] rfl rfl (by kernel_rfl) (fun _ _ _ h => h) (Or.inl ⟨by rfl, ?_⟩) ?_ ?_
          rotate_left
          · intro w'
            go_simp
            with_reducible rfl
          rotate_left
          · simp only [Act.put, List.setIfInBounds_toArray, List.set_cons_zero, List.set_cons_succ, i64_w, i32_w]
            rfl
          refine take_ (i := 4) (N := some 34) (v := ?_) (a' := ?_) #[true, true, true, true, true, false, false, false, false, false, false] rfl rfl (by kernel_rfl) (fun _ _ _ h => h) (Or.inl ⟨by rfl, ?_⟩) hHeld ?_ ?_
          rotate_left
          · rintro w' ⟨s0, s1, s2, s3, s4⟩
            go_simp
            with_reducible rfl
          rotate_left
          · simp only [Act.put, List.setIfInBounds_toArray, List.set_cons_zero, List.set_cons_succ, i64_w, i32_w]
            rfl
          refine take_ (i := 5) (N := some 35) (v := ?_) (a' := ?_) #[true, true, true, true, true, true, false, false, false, false, false] rfl rfl (by kernel_rfl) (fun _ _ _ h => h) (Or.inl ⟨by rfl, ?_⟩) hHeld ?_ ?_
          rotate_left
          · rintro w' ⟨s0, s1, s2, s3, s4⟩
            go_simp
            with_reducible rfl
          rotate_left
          · simp only [Act.put, List.setIfInBounds_toArray, List.set_cons_zero, List.set_cons_succ, i64_w, i32_w]
            rfl
          refine one_ (i := 6) (N := some 36) #[true, true, true, true, true, true, true, false, false, false, false] rfl rfl (by kernel_rfl) (by decide) (fun K hK => ?_)
          have HW6 := Aside0.mk hHeld.1
          refine value_ (w1 := ?_) (v := ?_) (by rfl) rfl ?_ ?_
          rotate_left 2
          · go_simp
            constructor
            · rfl
            · rfl
          refine hK.out _ _ ⟨hHeld.1.alloc (Nat.le_trans hHeld.1.size (Nat.le_refl _)) _, pw_cell_below (below_alloc (Below.refl _ _) _) hHeld.2.1, pw_cell_below (below_alloc (Below.refl _ _) _) hHeld.2.2.1, pw_cell_below (below_alloc (Below.refl _ _) _) hHeld.2.2.2.1, pw_cell_below (below_alloc (Below.refl _ _) _) hHeld.2.2.2.2⟩ (fun hHeld => ?_)
          clear hK K
          refine norm_ (a' := ?_) ?_ ?_
          rotate_left
          · show Act.put _ (some 36) _ = _
            simp only [Act.put, List.setIfInBounds_toArray, List.set_cons_zero, List.set_cons_succ, i64_w, i32_w]
            rfl
          refine last_ (i := 7) (N := some 37) #[true, true, true, true, true, true, true, true, false, false, false] rfl rfl (by kernel_rfl) (by decide) (fun K hK => ?_)
          refine step_append_cells (w0 := w) 0 (by rfl) (.tmp 34) (.tmp 36) 74 78 (.agg #[.slice none 0 0, .int .i64 0, .bool false]) 3 40 rfl HU74 info_th rfl (by decide) (by decide) (.slice AV l.length cV) l.length (cellsT ps l) [.slice AP m cP, .int .i64 2, .bool true] rfl rfl rfl (by intro u hu; simp at hu; rcases hu with rfl | rfl | rfl <;> rfl) (HM3.out.below HW6.out).row (below_cut (HB3.out.trans (below_cut HW6.out HB3.out.size)) (Nat.zero_le _)) (Nat.zero_le _) (by have h_ := HL.out; omega) ?_
          intro v7 w7 ho7 hb7 hg7 hat7
          obtain ⟨A7, c7, e7, hc7⟩ := own_shape ho7
          subst e7
          have HO7 := Aside0.mk ho7
          have HG7 := Aside0.mk hg7
          have HAT7 := Aside0.mk hat7
          have HMB := Aside0.mk (blk_grown (HM3.out.below HW6.out).obj hg7 (fun e_ => (HM3.out.below HW6.out).v_g g e_.symm rfl))
          clear ho7 hb7 hg7 hat7 hc7
          refine hK.out _ _ ?_
          clear hK K
          refine norm_ (a' := ?_) ?_ ?_
          rotate_left
          · show Act.put _ (some 37) _ = _
            simp only [Act.put, List.setIfInBounds_toArray, List.set_cons_zero, List.set_cons_succ, i64_w, i32_w]
            rfl
          refine pure_ (i := 8) (N := some 38) (v := ?_) (a' := ?_) #[true, true, true, true, true, true, true, true, true, false, false] rfl rfl (by kernel_rfl) (fun _ _ _ h => h) (Or.inl ⟨by rfl, ?_⟩) ?_ ?_
          rotate_left
          · intro w'
            go_simp
            with_reducible rfl
          rotate_left
          · simp only [Act.put, List.setIfInBounds_toArray, List.set_cons_zero, List.set_cons_succ, i64_w, i32_w]
            rfl
          refine pure_ (i := 9) (N := some 39) (v := ?_) (a' := ?_) #[true, true, true, true, true, true, true, true, true, true, false] rfl rfl (by kernel_rfl) (fun _ _ _ h => h) (Or.inl ⟨by rfl, ?_⟩) ?_ ?_
          rotate_left
          · intro w'
            go_simp
            with_reducible rfl
          rotate_left
          · simp only [Act.put, List.setIfInBounds_toArray, List.set_cons_zero, List.set_cons_succ, i64_w, i32_w]
            rfl
          refine last_ (i := 10) (N := none) #[true, true, true, true, true, true, true, true, true, true, true] rfl rfl (by kernel_rfl) (by decide) (fun K hK => ?_)
          have hd7 : w7.cell? ⟨g, 2, none⟩ = some (.slice AV l.length cV) := (blk_cell HMB.out 2).trans rfl
          have hf7 : w7.frozen? ⟨g, 2, none⟩ = false := blk_frozen HMB.out 2
          refine skip_ (w1 := ?_) (by rfl) rfl ?_ ?_
          rotate_left
          · go_simp
            rfl
          refine hK.out _ _ ?_
          clear hK K
          refine done_ (by kernel_rfl) ?_
          generalize hw8 : World.setCell w7 _ _ = w8
          have HM8 : Aside0 (MS w8 (fun k => ok k ∨ w.heap.size ≤ k) g kind true (.slice A7 (l.length + 1) c7) (ps ++ [.slice AP m cP]) (l ++ [⟨List.replicate m (-1), 2, true⟩])) := ⟨by
            rw [← hw8]
            refine MS.snoc (x := ⟨List.replicate m (-1), 2, true⟩) (HM3.out.below HW6.out) (own_same HP3.out (fun k hk => HW6.out.block k (HP3.out.lt k hk).2)) (fun k hk ho_ => by have h1_ := HPB.out k hk; have h2_ := HK.out k ho_; omega) HO7.out HG7.out HAT7.out (fun k hk => ?_)
            rcases hk with hk | hk | hk
            · exact .inl hk
            · exact .inr (Nat.le_trans HB3.out.size (Nat.le_trans HW6.out.size hk))
            · exact .inr (HPB.out k hk)⟩
          have HF8 : Aside0 (Fr ok w w8) := ⟨by
            rw [← hw8]
            exact ((Fr.of_below (HB3.out.trans (below_cut HW6.out HB3.out.size))).grown HG7.out (fun k hk => .inl (HM.out.vok k hk))).set (.inl HM.out.gok) _⟩
          have e2 := HM8.out.c2
          have hlw : IntKind.i64.wrap (((l.length + 1 : Nat) : Int) - 1) = (l.length : Int) := by have := HL.out; rw [IntKind.wrap_i64]; omega
          have HLW : Aside0 (wrap64 (((l.length + 1 : Nat) : Int) - 1) = (l.length : Int)) := ⟨by have := HL.out; unfold wrap64; omega⟩
          have HLW3 : Aside0 (wrap64 (l.length : Int) = (l.length : Int)) := ⟨by have := HL.out; unfold wrap64; omega⟩
          have HLW2 : Aside0 (wrap64 ((l.length : Int) + 1 - 1) = (l.length : Int)) := ⟨by have := HL.out; unfold wrap64; omega⟩
          clear hw8 hd7 hf7 d2 y0 y1 y2 hlw
          go_wp2_with fail
          go_ret2
          rw [HE.out]
          refine ⟨?_, ⟨_, _, HM8.out⟩, HF8.out⟩
          first | rfl | (rw [HLW3.out]; rfl)
end Go.Proofs.Ytnimidkeoocchaa.Mrk
