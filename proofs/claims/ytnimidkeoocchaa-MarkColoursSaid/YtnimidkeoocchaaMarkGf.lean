/- Package mark: Graph walked. -/
import Derived.Test.YtnimidkeoocchaaMarkRp
import Derived.Test.YtnimidkeoocchaaPK1
set_option linter.unusedVariables false
set_option linter.unusedSimpArgs false
namespace Go.Proofs.Ytnimidkeoocchaa.Mrk
open Go.RowKit Go.Proofs.YtnimidkeoocchaaW.PrintWords Go.Proofs.YtnimidkeoocchaaW.PrintLast Go.Proofs.YtnimidkeoocchaaW.PrintMore Go.Proofs.Ytnimidkeoocchaa.PK Go.Proofs.Ytnimidkeoocchaa.Hnd

/-- What things have, and which are held. -/
def graphL (l : List Th) : List (List Int) := l.map (fun x => x.f0.filter posI)
def heldL (l : List Th) : List Int := ((List.range l.length).filter (fun n => (thAt l n).f2)).map Int.ofNat
def heldTo (l : List Th) (i : Nat) : List Int := ((List.range i).filter (fun n => (thAt l n).f2)).map Int.ofNat
theorem heldTo_next (l : List Th) (i : Nat) : heldTo l (i + 1) = heldTo l i ++ (if (thAt l i).f2 = true then [(i : Int)] else []) := by
  unfold heldTo
  rw [List.range_succ, List.filter_append, List.map_append]
  congr 1
  by_cases h : (thAt l i).f2 = true
  · rw [if_pos h]; simp [h]
  · rw [if_neg h]; simp [h]
theorem heldTo_len (l : List Th) (i : Nat) : (heldTo l i).length ≤ i := by
  unfold heldTo
  rw [List.length_map]
  exact Nat.le_trans (List.length_filter_le _ _) (by simp)
theorem R_flat {α : Type} {d : Kd α} {e B : Nat} {W W1 : World} {v : Value} {xs : List α} (hE : d.E = []) (h : d.R e W B (fun _ => True) v xs) (hm : ∀ k, v.ownBlock = some k → W1.heap[k]? = W.heap[k]?) : d.R e W1 B (fun _ => True) v xs :=
  Kd.R_mono (Kd.R_step (Kd.R_tight hE h) (fun k hk _ => hm k hk.symm)) (fun _ _ => trivial)
theorem info_sl : (Try.prog.info? 29).map (fun i => (i.zero, i.size, i.bytes)) = some (some (.slice none 0 0), 1, 24) := by kernel_rfl
theorem clone_f (xs : List Int) (h : xs.length ≤ 1000) : slices_Clone_int_int.f xs = some xs := by
  unfold slices_Clone_int_int.f
  rw [Option.bind_some, if_pos (by simp; omega), List.nil_append]
theorem own_lower {w : World} {base base' : Nat} {e : TypeId} {size : Nat} {v : Value} {n : Nat} {xs : List Value} (h : w.ownsRow base e size v n xs) (hb : base' ≤ base) : w.ownsRow base' e size v n xs := by
  refine ⟨h.1, ?_⟩
  rcases h.2 with hn | ⟨g, cap, cur, hv, h1, h2⟩
  · exact .inl hn
  · exact .inr ⟨g, cap, cur, hv, Nat.le_trans hb h1, h2⟩
abbrev KH : Kd (List Int) := Kd.slice 3 (Kd.int .i64)
set_option maxHeartbeats 16000000 in
set_option maxRecDepth 100000 in
theorem graph_calls (w : World) {ok : Nat → Prop} {g : Nat} {kind : Int} {mk : Bool} {v : Value} {ps : List Value} {l : List Th} (h : MS w ok g kind mk v ps l) (ho : OkL l) :
    Calls Try.prog 30 #[.pointer (some ⟨g, 0, none⟩)] w fun e w' => ∃ vh vr, e = .returned (.agg #[vh, vr]) ∧ KH.R 29 w' w.heap.size (fun _ => True) vh (graphL l) ∧ (Kd.int .i64).R 3 w' w.heap.size (fun _ => True) vr (heldL l) ∧ Below w.heap.size w w' := by
  have c2 := h.c2
  obtain ⟨AV, cV, ev, hcv⟩ := own_shape h.row
  subst ev
  have HM := Aside0.mk h
  have HO := Aside0.mk ho
  have HZ := Aside0.mk ho.len
  have hgw : g < w.heap.size := blk_lt h.obj
  have c2' : ((w.alloc (Obj.cells #[.slice none 0 0, .slice none 0 0] 38)).alloc (Obj.cells #[.slice none 0 0, .slice none 0 0] 38)).cell? ⟨g, 2, none⟩ = some (.slice AV l.length cV) := pw_cell_below (below_alloc (below_alloc (Below.refl _ _) _) _) c2
  have HB0 : Aside0 (Below w.heap.size w ((w.alloc (Obj.cells #[.slice none 0 0, .slice none 0 0] 38)).alloc (Obj.cells #[.slice none 0 0, .slice none 0 0] 38))) := ⟨below_alloc (below_alloc (Below.refl _ _) _) _⟩
  have HG0 : Aside0 (((w.alloc (Obj.cells #[.slice none 0 0, .slice none 0 0] 38)).alloc (Obj.cells #[.slice none 0 0, .slice none 0 0] 38)).heap[w.heap.size + 1]? = some (.cells #[.slice none 0 0, .slice none 0 0] 38 (0, 0))) := ⟨by have h_ := blk_new (w.alloc (Obj.cells #[.slice none 0 0, .slice none 0 0] 38)) (Obj.cells #[.slice none 0 0, .slice none 0 0] 38); rwa [blk_size] at h_⟩
  have HG1 : Aside0 (((w.alloc (Obj.cells #[.slice none 0 0, .slice none 0 0] 38)).alloc (Obj.cells #[.slice none 0 0, .slice none 0 0] 38)).heap[w.heap.size]? = some (.cells #[.slice none 0 0, .slice none 0 0] 38 (0, 0))) := ⟨blk_alloc (blk_new w _) _⟩
  have HU36 := Try.underlying36
  have HU29 := Try.underlying29
  clear h ho
  go_enter Try.func30, Try.ntmps30
  go_wp2
  go_loopg [11] l.length (fun kq v11 W => ∃ (i : Nat) (vh vr : Value), v11 = .int .i64 (i : Int) ∧ Aside0 (i ≤ l.length ∧ kq = l.length - i) ∧ Aside0 (W.heap[w.heap.size + 1]? = some (.cells #[vh, vr] 38 (0, 0))) ∧ Aside0 (W.heap[w.heap.size]? = some (.cells #[.slice none 0 0, .slice none 0 0] 38 (0, 0))) ∧ Aside0 (KH.R 29 W w.heap.size (fun k => some k ≠ vr.ownBlock) vh (graphL (l.take i))) ∧ Aside0 ((Kd.int .i64).R 3 W w.heap.size (fun _ => True) vr (heldTo l i)) ∧ Aside0 (Below w.heap.size w W))
  case atStart => exact ⟨0, .slice none 0 0, .slice none 0 0, rfl, ⟨Nat.zero_le _, by omega⟩, HG0, HG1, ⟨by simpa [graphL] using Kd.R_nil _ _ _ _ _⟩, ⟨by simpa [heldTo] using Kd.R_nil _ _ _ _ _⟩, HB0⟩
  case round =>
    clear c2 c2' HB0 HG0 HG1
    obtain ⟨i, vh, vr, rfl, HIQ, HG, HG1, HRH, HRR, HB⟩ := hrel
    by_cases hlt : i < l.length
    · have HMW := Aside0.mk (HM.out.below HB.out)
      obtain ⟨q, cap, A, c, e1, hqo, x0, x1, x2, hpe, hpc, hpC⟩ := HMW.out.at_ i hlt
      injection e1 with e1 e2 e3
      subst e1
      clear e2 e3
      have hi0 : (0 : Int) ≤ (i : Int) := by omega
      have hi1 : (i : Int) < (l.length : Int) := by omega
      have hdec : decide ((i : Int) < (l.length : Int)) = true := decide_eq_true hi1
      have hdec2 : decide (i < l.length) = true := decide_eq_true hlt
      have HLT := Aside0.mk hlt
      have HZL := Aside0.mk ((HO.out.pl _ (List.getElem_mem hlt)).1)
      have HSN : Aside0 (graphL (l.take (i + 1)) = graphL (l.take i) ++ [(l[i].f0).filter posI]) := ⟨by unfold graphL; rw [List.take_succ_eq_append_getElem hlt, List.map_append]; rfl⟩
      have HSR := Aside0.mk (heldTo_next l i)
      rw [thAt_eq hlt] at HSR
      have HPC := Aside0.mk hpc
      have HPCC := Aside0.mk hpC
      generalize l[i].f0 = fs at x0 HZL HSN HPC HPCC
      generalize l[i].f1 = y1 at x1
      generalize l[i].f2 = y2 at x2 HSR
      obtain ⟨xs, hxs⟩ : ∃ xs, xs = graphL (l.take i) := ⟨_, rfl⟩
      have HXL : Aside0 (xs.length ≤ 1000) := ⟨by rw [hxs]; unfold graphL; rw [List.length_map, List.length_take]; have := HZ.out; omega⟩
      rw [← hxs] at HRH HSN
      obtain ⟨rs, hrs⟩ : ∃ rs, rs = heldTo l i := ⟨_, rfl⟩
      have HRL : Aside0 (rs.length ≤ 1000) := ⟨by rw [hrs]; have h1_ := heldTo_len l i; have h2_ := HZ.out; omega⟩
      rw [← hrs] at HRR HSR
      obtain ⟨AH, cH, eH⟩ := Kd.R_slice HRH.out
      subst eH
      obtain ⟨AR, cR, eR⟩ := Kd.R_slice HRR.out
      subst eR
      obtain ⟨W1, hW1⟩ : ∃ W1, W1 = wr.alloc (Obj.cells #[.slice A fs.length c, .int .i64 y1, .bool y2] 78) := ⟨_, rfl⟩
      have hbx : Below wr.heap.size wr W1 := by rw [hW1]; exact below_alloc (Below.refl _ _) _
      have HX1 : Aside0 (W1.heap[wr.heap.size]? = some (.cells #[.slice A fs.length c, .int .i64 y1, .bool y2] 78 (0, 0))) := ⟨by rw [hW1]; exact blk_new _ _⟩
      have HGX := Aside0.mk (blk_below HG.out hbx)
      have HG1X := Aside0.mk (blk_below HG1.out hbx)
      have HHX := Aside0.mk (Kd.R_below HRH.out hbx)
      have HRX := Aside0.mk (Kd.R_below HRR.out hbx)
      have HBX : Aside0 (Below w.heap.size w W1) := ⟨HB.out.trans (below_cut hbx HB.out.size)⟩
      have HCX := Aside0.mk (Kd.C_below HPCC.out hbx)
      have HWS : Aside0 (w.heap.size + 1 < wr.heap.size) := ⟨blk_lt HG.out⟩
      have hg0 : W1.cell? ⟨w.heap.size + 1, 0, none⟩ = some (.slice AH xs.length cH) := (blk_cell HGX.out 0).trans rfl
      have hx0 : W1.cell? ⟨wr.heap.size, 0, none⟩ = some (.slice A fs.length c) := (blk_cell HX1.out 0).trans rfl
      have HCLF := Aside0.mk (clone_f fs HZL.out)
      have HSZ : Aside0 (W1.heap.size = wr.heap.size + 1) := ⟨by rw [hW1]; exact blk_size⟩
      obtain ⟨qs, hqs⟩ : ∃ qs, qs = fs.filter posI := ⟨_, rfl⟩
      rw [← hqs] at HSN
      have HQS := Aside0.mk hqs
      clear hqs hxs hrs hqo hpe hpc hpC hbx HG HG1 HRH HRR HB HMW HPCC
      go_wp2_with fail
      rw [← hW1]
      clear hW1 x0 x1 x2
      refine start_ (n := 10) (S := fun w' => Below W1.heap.size W1 w' ∧ w'.cell? ⟨w.heap.size + 1, 0, none⟩ = some (.slice AH xs.length cH) ∧ w'.cell? ⟨wr.heap.size, 0, none⟩ = some (.slice A fs.length c)) (ds := [7, 9]) #[false, false, false, false, false, false, false, false, false, false] (by kernel_rfl) rfl rfl ⟨(below_drew (Below.refl _ _)), hg0, hx0⟩ (fun hHeld => ?_)
      refine pure_ (i := 0) (N := some 16) (v := ?_) (a' := ?_) #[true, false, false, false, false, false, false, false, false, false] rfl rfl (by kernel_rfl) (fun _ _ _ h => h) (Or.inl ⟨by rfl, ?_⟩) ?_ ?_
      rotate_left
      · intro w'
        go_simp
        with_reducible rfl
      rotate_left
      · simp only [Act.put, List.setIfInBounds_toArray, List.set_cons_zero, List.set_cons_succ, i64_w, i32_w]
        rfl
      refine pure_ (i := 2) (N := some 18) (v := ?_) (a' := ?_) #[true, false, true, false, false, false, false, false, false, false] rfl rfl (by kernel_rfl) (fun _ _ _ h => h) (Or.inl ⟨by rfl, ?_⟩) ?_ ?_
      rotate_left
      · intro w'
        go_simp
        with_reducible rfl
      rotate_left
      · simp only [Act.put, List.setIfInBounds_toArray, List.set_cons_zero, List.set_cons_succ, i64_w, i32_w]
        rfl
      refine take_ (i := 1) (N := some 17) (v := ?_) (a' := ?_) #[true, true, true, false, false, false, false, false, false, false] rfl rfl (by kernel_rfl) (fun _ _ _ h => h) (Or.inl ⟨by rfl, ?_⟩) hHeld ?_ ?_
      rotate_left
      · rintro w' ⟨s0, s1, s2⟩
        go_simp
        with_reducible rfl
      rotate_left
      · simp only [Act.put, List.setIfInBounds_toArray, List.set_cons_zero, List.set_cons_succ, i64_w, i32_w]
        rfl
      refine take_ (i := 3) (N := some 19) (v := ?_) (a' := ?_) #[true, true, true, true, false, false, false, false, false, false] rfl rfl (by kernel_rfl) (fun _ _ _ h => h) (Or.inl ⟨by rfl, ?_⟩) hHeld ?_ ?_
      rotate_left
      · rintro w' ⟨s0, s1, s2⟩
        go_simp
        with_reducible rfl
      rotate_left
      · simp only [Act.put, List.setIfInBounds_toArray, List.set_cons_zero, List.set_cons_succ, i64_w, i32_w]
        rfl
      refine one_ (i := 4) (N := some 20) #[true, true, true, true, true, false, false, false, false, false] rfl rfl (by kernel_rfl) (by decide) (fun K hK => ?_)
      refine goes_ Try.func54 (by kernel_rfl) rfl #[.slice A fs.length c] (by rfl) rfl rfl (by simp only [List.map_toArray, List.map_cons, List.map_nil]; rfl) ?_
      with_reducible refine (slices_Clone_int_int.calls A c fs fs _ (Kd.C_below HCX.out hHeld.1) HPC.out HCLF.out).mono ?_
      rintro e w5 ⟨v5, rfl, ho5, hb5⟩
      refine ⟨_, rfl, ?_⟩
      have ho5b := Kd.own_of_R (Kd.R_lower ho5 hHeld.1.size)
      refine hK.out _ _ ⟨below_step hHeld.1 hb5, pw_cell_below hb5 hHeld.2.1, pw_cell_below hb5 hHeld.2.2⟩ (fun hHeld => ?_)
      clear hK K
      refine norm_ (a' := ?_) ?_ ?_
      rotate_left
      · show Act.put _ (some 20) _ = _
        simp only [Act.put, List.setIfInBounds_toArray, List.set_cons_zero, List.set_cons_succ, i64_w, i32_w]
        rfl
      refine one_ (i := 5) (N := some 21) #[true, true, true, true, true, true, false, false, false, false] rfl rfl (by kernel_rfl) (by decide) (fun K hK => ?_)
      refine goes_ Try.func53 (by kernel_rfl) rfl #[v5, .func (.func 55) #[] #[]] (by rfl) rfl rfl (by simp only [List.map_toArray, List.map_cons, List.map_nil]; rfl) ?_
      with_reducible refine (delf_calls _ W1.heap.size v5 fs ho5b HZL.out hHeld.1.size).mono ?_
      rintro e w6 ⟨v6, rfl, ho6, hbl6, hb6⟩
      refine ⟨_, rfl, ?_⟩
      rw [← HQS.out] at ho6
      obtain ⟨A6, c6, e6, hc6⟩ := own_shape ho6
      subst e6
      clear hc6
      refine hK.out _ _ ⟨hHeld.1.trans hb6, cell_deeper hHeld.2.1 hb6 (by have h1_ := HWS.out; have h2_ := HSZ.out; show _ < _; simp only; omega), cell_deeper hHeld.2.2 hb6 (by have h2_ := HSZ.out; show _ < _; simp only; omega)⟩ (fun hHeld => ?_)
      clear hK K
      refine norm_ (a' := ?_) ?_ ?_
      rotate_left
      · show Act.put _ (some 21) _ = _
        simp only [Act.put, List.setIfInBounds_toArray, List.set_cons_zero, List.set_cons_succ, i64_w, i32_w]
        rfl
      refine one_ (i := 6) (N := some 22) #[true, true, true, true, true, true, true, false, false, false] rfl rfl (by kernel_rfl) (by decide) (fun K hK => ?_)
      have HW6 := Aside0.mk hHeld.1
      have HO6 := Aside0.mk ho6
      refine value_ (w1 := ?_) (v := ?_) (by rfl) rfl ?_ ?_
      rotate_left 2
      · go_simp
        constructor
        · rfl
        · rfl
      refine hK.out _ _ ⟨hHeld.1.alloc (Nat.le_trans hHeld.1.size (Nat.le_refl _)) _, pw_cell_below (below_alloc (Below.refl _ _) _) hHeld.2.1, pw_cell_below (below_alloc (Below.refl _ _) _) hHeld.2.2⟩ (fun hHeld => ?_)
      clear hK K
      refine norm_ (a' := ?_) ?_ ?_
      rotate_left
      · show Act.put _ (some 22) _ = _
        simp only [Act.put, List.setIfInBounds_toArray, List.set_cons_zero, List.set_cons_succ, i64_w, i32_w]
        rfl
      refine last_ (i := 7) (N := some 23) #[true, true, true, true, true, true, true, true, false, false] rfl rfl (by kernel_rfl) (by decide) (fun K hK => ?_)
      refine Kd.R_append_step KH (w0 := w) w.heap.size (by rfl) (.tmp 17) (.tmp 22) 36 29 (.slice none 0 0) 24 rfl HU36 info_sl rfl (by decide) (by decide) (.slice AH xs.length cH) xs qs [.slice A6 qs.length c6] (fun k => some k ≠ (Value.slice AR rs.length cR).ownBlock) (fun k => some k = (Value.slice A6 qs.length c6).ownBlock) rfl rfl ?hp7 ?hok7 ?hfr7 (Kd.R_below HHX.out HW6.out) (HBX.out.trans (below_cut HW6.out HBX.out.size)) ?hbs7 ?hl7 ?_
      case hp7 => exact ⟨_, rfl, Kd.R_of_own (enc := Value.int .i64) (h1 := fun _ => rfl) (own_lower HO6.out HBX.out.size) (fun k hk => hk.symm)⟩
      case hok7 => exact fun k hk => ⟨fun e_ => by have h1_ := (HO6.out.lt k hk.symm).1; have h2_ := Kd.R_lt HRX.out k e_.symm; omega, fun e_ => by have h1_ := (HO6.out.lt k hk.symm).1; have h2_ := Kd.R_lt HHX.out k e_.symm; omega⟩
      case hfr7 => exact fun k hk e_ => by have h2_ := Kd.R_lt HRX.out k e_.symm; have h3_ := HW6.out.size; omega
      case hbs7 => exact Nat.le_trans HBX.out.size HW6.out.size
      case hl7 => have h_ := HXL.out; omega
      intro v7 w7 ho7 hb7 hg7 hat7
      obtain ⟨A7, c7, e7⟩ := Kd.R_slice ho7
      subst e7
      have HO7 := Aside0.mk ho7
      have HB7 := Aside0.mk hb7
      have HG7 := Aside0.mk hg7
      have HAT7 := Aside0.mk hat7
      have HGB7 := Aside0.mk (blk_grown (blk_below HGX.out HW6.out) hg7 (Kd.R_ne (Kd.R_below HHX.out HW6.out) (blk_below HGX.out HW6.out) (by decide)))
      clear ho7 hb7 hg7 hat7
      refine hK.out _ _ ?_
      clear hK K
      refine norm_ (a' := ?_) ?_ ?_
      rotate_left
      · show Act.put _ (some 23) _ = _
        simp only [Act.put, List.setIfInBounds_toArray, List.set_cons_zero, List.set_cons_succ, i64_w, i32_w]
        rfl
      refine pure_ (i := 8) (N := some 24) (v := ?_) (a' := ?_) #[true, true, true, true, true, true, true, true, true, false] rfl rfl (by kernel_rfl) (fun _ _ _ h => h) (Or.inl ⟨by rfl, ?_⟩) ?_ ?_
      rotate_left
      · intro w'
        go_simp
        with_reducible rfl
      rotate_left
      · simp only [Act.put, List.setIfInBounds_toArray, List.set_cons_zero, List.set_cons_succ, i64_w, i32_w]
        rfl
      refine last_ (i := 9) (N := none) #[true, true, true, true, true, true, true, true, true, true] rfl rfl (by kernel_rfl) (by decide) (fun K hK => ?_)
      have hd7 : w7.cell? ⟨w.heap.size + 1, 0, none⟩ = some (.slice AH xs.length cH) := (blk_cell HGB7.out 0).trans rfl
      have hf7 : w7.frozen? ⟨w.heap.size + 1, 0, none⟩ = false := blk_frozen HGB7.out 0
      refine skip_ (w1 := ?_) (by rfl) rfl ?_ ?_
      rotate_left
      · go_simp
        rfl
      refine hK.out _ _ ?_
      clear hK K
      refine done_ (by kernel_rfl) ?_
      generalize hw8 : World.setCell w7 _ _ = w8
      have HGB8 : Aside0 (w8.heap[w.heap.size + 1]? = some (.cells #[.slice A7 (xs ++ [qs]).length c7, .slice AR rs.length cR] 38 (0, 0))) := ⟨by rw [← hw8]; simpa using blk_set HGB7.out 0 (.slice A7 (xs ++ [qs]).length c7)⟩
      have hne7 := Kd.R_ne HO7.out HGB7.out (by decide)
      have hkeep : ∀ k, k < w7.heap.size → k ≠ w.heap.size + 1 → w8.heap[k]? = w7.heap[k]? := fun k _ hk => by rw [← hw8]; exact heap_setCell_other w7 _ k _ hk
      have hB17 : Below w.heap.size w w8 := by rw [← hw8]; exact HB7.out.setCell (p := ⟨w.heap.size + 1, 0, none⟩) (by show w.heap.size ≤ _; simp) _
      have HB8 := Aside0.mk hB17
      have HX7 := blk_grown (blk_below HX1.out HW6.out) HG7.out (Kd.R_ne (Kd.R_below HHX.out HW6.out) (blk_below HX1.out HW6.out) (by decide))
      have HX8 : Aside0 (w8.heap[wr.heap.size]? = some (.cells #[.slice A fs.length c, .int .i64 y1, .bool y2] 78 (0, 0))) := ⟨(hkeep _ (blk_lt HX7) (by have := HWS.out; omega)).trans HX7⟩
      have HX17 := blk_grown (blk_below HG1X.out HW6.out) HG7.out (Kd.R_ne (Kd.R_below HHX.out HW6.out) (blk_below HG1X.out HW6.out) (by decide))
      have HG18 : Aside0 (w8.heap[w.heap.size]? = some (.cells #[.slice none 0 0, .slice none 0 0] 38 (0, 0))) := ⟨(hkeep _ (blk_lt HX17) (by omega)).trans HX17⟩
      have HRR7 : (Kd.int .i64).R 3 w7 w.heap.size (fun _ => True) (.slice AR rs.length cR) rs := R_flat rfl (Kd.R_below HRX.out HW6.out) (fun k hk => HG7.out.block k (Kd.R_lt (Kd.R_below HRX.out HW6.out) k hk) (fun e_ => by
        obtain ⟨cs_, hcs⟩ := Kd.R_typed (Kd.R_below HRX.out HW6.out) k hk
        exact Kd.R_ne (Kd.R_below HHX.out HW6.out) hcs (by decide) e_))
      have HRR8 : Aside0 ((Kd.int .i64).R 3 w8 w.heap.size (fun _ => True) (.slice AR rs.length cR) rs) := ⟨R_flat rfl HRR7 (fun k hk => hkeep k (Kd.R_lt HRR7 k hk) (fun e_ => by subst e_; exact Kd.R_ne HRR7 HGB7.out (by decide) hk.symm))⟩
      have HRH8 : Aside0 (KH.R 29 w8 w.heap.size (fun k => some k ≠ (Value.slice AR rs.length cR).ownBlock) (.slice A7 (xs ++ [qs]).length c7) (xs ++ [qs])) := ⟨by
        have h_ := Kd.R_apart' (v := .slice (some ⟨w.heap.size + 1, 0, none⟩) 0 0) HO7.out (e' := 38) (fun k hk => by simp [Value.ownBlock] at hk; subst hk; exact ⟨_, HGB7.out⟩) (by decide)
        refine Kd.R_mono (Kd.R_step h_ (fun k hk hlt => hkeep k hlt (fun e_ => hk.2 (by rw [e_]; rfl)))) (fun k hk => hk.1)⟩
      have hx2 : w8.cell? ⟨wr.heap.size, 2, none⟩ = some (.bool y2) := (blk_cell HX8.out 2).trans rfl
      have hr1 : w8.cell? ⟨w.heap.size + 1, 1, none⟩ = some (.slice AR rs.length cR) := (blk_cell HGB8.out 1).trans rfl
      have HW64 : Aside0 (wrap64 ((i : Int) + 1) = ((i + 1 : Nat) : Int)) := ⟨by have := HZ.out; unfold wrap64; omega⟩
      clear hw8 hne7 hkeep hB17 HX7 HX17 HRR7 hg0 hx0 hd7 hf7
      cases y2 with
      | false =>
        have HE : Aside0 (heldTo l (i + 1) = rs) := ⟨by rw [HSR.out]; simp⟩
        go_wp2_with fail
        go_roundg (l.length - (i + 1))
        case measure => have := HIQ.out; have := HLT.out; omega
        case rel =>
          refine ⟨i + 1, _, _, ?_, ⟨by have := HLT.out; omega, rfl⟩, HGB8, HG18, ⟨?_⟩, ⟨?_⟩, HB8⟩
          · first | rfl | rw [HW64.out]
          · rw [HSN.out]; exact HRH8.out
          · rw [HE.out]; exact HRR8.out
      | true =>
        have HE : Aside0 (heldTo l (i + 1) = rs ++ [(i : Int)]) := ⟨by rw [HSR.out]; simp⟩
        go_wp2_with (first | ((with_reducible refine gate_builtin (b := .append) (xs := #[.tmp 28, .tmp 30]) rfl ?_); refine Kd.R_append (Kd.int .i64) (w0 := w) w.heap.size rfl (.tmp 28) (.tmp 30) 29 3 (.int .i64 0) 8 rfl HU29 info_i rfl (by decide) (by decide) (.slice AR rs.length cR) rs (i : Int) [.int .i64 (i : Int)] (fun _ => True) (fun _ => False) rfl rfl rfl (fun _ hk => hk.elim) (fun _ _ => trivial) HRR8.out HB8.out ?hbs ?hl ?_; (case hbs => exact HB8.out.size); (case hl => have h_ := HRL.out; omega); intro v9 w9 ho9 hb9 hg9 hat9; obtain ⟨A9, c9, e9⟩ := Kd.R_slice ho9; subst e9; have HO9 := Aside0.mk ho9; have HB9 := Aside0.mk hb9; have HG9 := Aside0.mk hg9; have HAT9 := Aside0.mk hat9; have HGB9 := Aside0.mk (blk_grown HGB8.out hg9 (Kd.R_ne HRR8.out HGB8.out (by decide))); have hd9 : w9.cell? ⟨w.heap.size + 1, 1, none⟩ = some (.slice AR rs.length cR) := (blk_cell HGB9.out 1).trans rfl; have hf9 : w9.frozen? ⟨w.heap.size + 1, 1, none⟩ = false := blk_frozen HGB9.out 1; clear ho9 hb9 hg9 hat9))
        have hkeep : ∀ u, ∀ k, k < w9.heap.size → k ≠ w.heap.size + 1 → (w9.setCell ⟨w.heap.size + 1, 1, none⟩ u).heap[k]? = w9.heap[k]? := fun u k _ hk => heap_setCell_other w9 _ k u hk
        have HX19 := blk_grown HG18.out HG9.out (Kd.R_ne HRR8.out HG18.out (by decide))
        have HRH9 : KH.R 29 w9 w.heap.size (fun k => some k ≠ (Value.slice A9 (rs ++ [(i : Int)]).length c9).ownBlock) (.slice A7 (xs ++ [qs]).length c7) (xs ++ [qs]) := by
          refine Kd.R_mono (Kd.R_step (Kd.R_bound HRH8.out) (fun k hk hlt => HG9.out.block k hlt hk.1)) (fun k hk e_ => ?_)
          rcases HAT9.out with h_ | ⟨b_, h_, h2_⟩
          · rw [h_] at e_; exact hk.1 e_
          · rw [h_] at e_; injection e_ with e_; have := hk.2.2; omega
        go_roundg (l.length - (i + 1))
        case measure => have := HIQ.out; have := HLT.out; omega
        case rel =>
          refine ⟨i + 1, .slice A7 (xs ++ [qs]).length c7, .slice A9 (rs ++ [(i : Int)]).length c9, ?_, ⟨by have := HLT.out; omega, rfl⟩, ⟨?_⟩, ⟨?_⟩, ⟨?_⟩, ⟨?_⟩, ⟨?_⟩⟩
          · first | rfl | rw [HW64.out]
          · simpa using blk_set HGB9.out 1 (.slice A9 (rs ++ [(i : Int)]).length c9)
          · exact (hkeep _ _ (blk_lt HX19) (by omega)).trans HX19
          · rw [HSN.out]
            have h_ := Kd.R_apart' (v := .slice (some ⟨w.heap.size + 1, 0, none⟩) 0 0) HRH9 (e' := 38) (fun k hk => by simp [Value.ownBlock] at hk; subst hk; exact ⟨_, HGB9.out⟩) (by decide)
            exact Kd.R_mono (Kd.R_step h_ (fun k hk hlt => hkeep _ k hlt (fun e_ => hk.2 (by rw [e_]; rfl)))) (fun k hk => hk.1)
          · rw [HE.out]
            exact R_flat rfl HO9.out (fun k hk => hkeep _ k (Kd.R_lt HO9.out k hk) (fun e_ => by subst e_; exact Kd.R_ne HO9.out HGB9.out (by decide) hk.symm))
          · exact HB9.out.setCell (p := ⟨w.heap.size + 1, 1, none⟩) (by show w.heap.size ≤ _; simp) _
    · have e_ : i = l.length := by have := HIQ.out; omega
      subst e_
      have hdec : decide ((l.length : Int) < (l.length : Int)) = false := decide_eq_false (by omega)
      have hdec2 : decide (l.length < l.length) = false := decide_eq_false hlt
      have hg0 : wr.cell? ⟨w.heap.size + 1, 0, none⟩ = some vh := (blk_cell HG.out 0).trans rfl
      have hg1 : wr.cell? ⟨w.heap.size + 1, 1, none⟩ = some vr := (blk_cell HG.out 1).trans rfl
      obtain ⟨AH, cH, eH⟩ := Kd.R_slice HRH.out
      subst eH
      obtain ⟨AR, cR, eR⟩ := Kd.R_slice HRR.out
      subst eR
      have hh0 : wr.cell? ⟨w.heap.size, 0, none⟩ = some (.slice none 0 0) := (blk_cell HG1.out 0).trans rfl
      have hh1 : wr.cell? ⟨w.heap.size, 1, none⟩ = some (.slice none 0 0) := (blk_cell HG1.out 1).trans rfl
      have hz0 : wr.frozen? ⟨w.heap.size, 0, none⟩ = false := blk_frozen HG1.out 0
      have hz1 : wr.frozen? ⟨w.heap.size, 1, none⟩ = false := blk_frozen HG1.out 1
      have hT : graphL (l.take l.length) = graphL l := by rw [List.take_length]
      have hT2 : heldTo l l.length = heldL l := rfl
      rw [hT] at HRH
      rw [hT2] at HRR
      simp only [hT, hT2] at hg0 hg1
      have HG1b := Aside0.mk (blk_put HG1.out 0 (.slice AH (graphL l).length cH) (cs' := #[.slice AH (graphL l).length cH, .slice none 0 0]) rfl)
      have HG2b := Aside0.mk (blk_put HG1b.out 1 (.slice AR (heldL l).length cR) (cs' := #[.slice AH (graphL l).length cH, .slice AR (heldL l).length cR]) rfl)
      clear hlt hT hT2
      obtain ⟨gl, hgl⟩ : ∃ gl, gl = graphL l := ⟨_, rfl⟩
      obtain ⟨rl, hrl⟩ : ∃ rl, rl = heldL l := ⟨_, rfl⟩
      rw [← hgl] at hg0 HRH HG1b HG2b
      rw [← hrl] at hg1 HRR HG2b
      have HGL := Aside0.mk hgl
      have HRLL := Aside0.mk hrl
      clear hgl hrl
      go_wp2_with fail
      (try simp only [Exit.inBlock, Exit.then])
      refine bodyPost_ret (results_cell_row rfl _ _ w.heap.size 38 #[.slice AH gl.length cH, .slice AR rl.length cR] (0, 0) _ rfl HG2b.out Try.underlying38 rfl (by kernel_rfl)) rfl ?_
      have hk1 : ∀ u, ∀ k, k ≠ w.heap.size → (wr.setCell ⟨w.heap.size, 0, none⟩ u).heap[k]? = wr.heap[k]? := fun u k hk => heap_setCell_other wr _ k u hk
      have hk2 : ∀ u u', ∀ k, k ≠ w.heap.size → ((wr.setCell ⟨w.heap.size, 0, none⟩ u).setCell ⟨w.heap.size, 1, none⟩ u').heap[k]? = wr.heap[k]? := fun u u' k hk => (heap_setCell_other _ _ k u' hk).trans (hk1 u k hk)
      rw [← HGL.out, ← HRLL.out]
      refine ⟨_, _, rfl, ?_, ?_, (HB.out.setCell (p := ⟨w.heap.size, 0, none⟩) (Nat.le_refl _) _).setCell (p := ⟨w.heap.size, 1, none⟩) (Nat.le_refl _) _⟩
      · have h_ := Kd.R_apart' (v := .slice (some ⟨w.heap.size, 0, none⟩) 0 0) HRH.out (e' := 38) (fun k hk => by simp [Value.ownBlock] at hk; subst hk; exact ⟨_, HG1.out⟩) (by decide)
        exact Kd.R_mono (Kd.R_step h_ (fun k hk hlt => hk2 _ _ k (fun e_ => hk.2 (by rw [e_]; rfl)))) (fun k hk => trivial)
      · exact R_flat rfl HRR.out (fun k hk => hk2 _ _ k (fun e_ => by subst e_; exact Kd.R_ne HRR.out HG1.out (by decide) hk.symm))
end Go.Proofs.Ytnimidkeoocchaa.Mrk
