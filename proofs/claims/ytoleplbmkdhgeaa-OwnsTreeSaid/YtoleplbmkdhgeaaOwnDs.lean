/- Package owns walked: Doms; the closed fact owned. -/
import Derived.Test.YtoleplbmkdhgeaaOwnDo
import Derived.Test.YtoleplbmkdhgeaaCheckPure
import Derived.Test.YtoleplbmkdhgeaaPN3
import Derived.KernelRfl
set_option linter.unusedVariables false
set_option linter.unusedSimpArgs false
namespace Go.Proofs.Ytoleplbmkdhgeaa.Own
open Go.RowKit Go.Proofs.YtoleplbmkdhgeaaW.PrintWords Go.Proofs.YtoleplbmkdhgeaaW.PrintLast Go.Proofs.YtoleplbmkdhgeaaW.PrintMore Go.Proofs.Ytoleplbmkdhgeaa.PN Go.Proofs.Ytoleplbmkdhgeaa.Hnd Go.Lib Go.Proofs.Ytoleplbmkdhgeaa.Chk

theorem V_of_C' {α : Type} {d : Kd α} (hd : Kd.Heap d) {w : World} {e base : Nat} {A : Option Addr} {c : Nat} {xs : List α} (h : d.C w A xs.length xs) (hc : xs.length ≤ c) : Kd.V d e w base (fun _ => True) (.slice A xs.length c) xs :=
  ⟨A, c, rfl, hc, fun W' hW => hd.C (fun k hk => hW k trivial hk) h⟩
theorem gr_of {has : List (List Int)} {roots : List Int} (h : checkE has roots = 0) : Gr has roots ∧ has.length ≤ 100 ∧ roots.length ≤ 100 ∧ ∀ l ∈ has, l.length ≤ 10 := by
  obtain ⟨h1, h2, h3, h4, h5⟩ := check_ok h
  refine ⟨⟨fun p hp hp2 n hn => ?_, h4⟩, h1, h2, h3⟩
  unfold rowF at hn
  rw [List.getD_eq_getElem?_getD, List.getElem?_eq_getElem (by omega)] at hn
  exact h5 _ (List.getElem_mem _) n hn
abbrev DoneG (has : List (List Int)) (roots : List Int) (D : List Int) : Prop := Done (rootR roots) (edgeR has) (rpoL has roots) (posF (placeL has roots)) (fnD D)
theorem check_calls (w : World) (has : List (List Int)) (roots : List Int) (AH : Option Addr) (cH : Nat) (AR : Option Addr) (cR : Nat) (hH : Kd.C (Kd.slice 3 (Kd.int .i64)) w AH has.length has) (hcH : has.length ≤ cH) (hR : Kd.C (Kd.int .i64) w AR roots.length roots) (hcR : roots.length ≤ cR) :
    Calls Try.prog 38 #[.agg #[.slice AH has.length cH, .slice AR roots.length cR]] w fun e w' => e = .returned (.int .i64 (checkE has roots)) ∧ Below w.heap.size w w' :=
  weak_Check.calls (checkK has roots) (fun _ => True) AH cH has (fun _ => True) AR cR roots (checkE has roots) w (V_of_C' (Kd.heap_slice 3 (Kd.heap_int .i64)) hH hcH) (V_of_C' (Kd.heap_int .i64) hR hcR) (check_f has roots _ (Nat.le_refl _))
set_option maxHeartbeats 16000000 in
set_option maxRecDepth 100000 in
theorem Doms_calls (W : World) (has : List (List Int)) (roots : List Int) (AH : Option Addr) (cH : Nat) (AR : Option Addr) (cR : Nat) (hH : Kd.C (Kd.slice 3 (Kd.int .i64)) W AH has.length has) (hcH : has.length ≤ cH) (hR : Kd.C (Kd.int .i64) W AR roots.length roots) (hcR : roots.length ≤ cR) :
    Calls Try.prog 24 #[.agg #[.slice AH has.length cH, .slice AR roots.length cR]] W fun e w' => ∃ v, e = .returned (.tuple #[v, .int .i64 (checkE has roots)]) ∧ (checkE has roots ≠ 0 → v = .slice none 0 0) ∧ (checkE has roots = 0 → ∃ D A c, v = .slice A D.length c ∧ Kd.R (Kd.int .i64) 3 w' W.heap.size (fun _ => True) v D ∧ D.length = has.length ∧ DoneG has roots D) ∧ Below W.heap.size W w' := by
  obtain ⟨o1, ho1⟩ : ∃ ob, ob = Obj.cells #[.slice AH has.length cH, .slice AR roots.length cR] 25 := ⟨_, rfl⟩
  have hal := below_alloc (Below.refl W.heap.size W) o1
  have HB := Aside0.mk hal
  have HC : Aside0 ((W.alloc o1).heap[W.heap.size]? = some (.cells #[.slice AH has.length cH, .slice AR roots.length cR] 25 (0, 0))) := ⟨by rw [ho1]; exact blk_new W _⟩
  have HH := Aside0.mk (And.intro hH hcH)
  have HR := Aside0.mk (And.intro hR hcR)
  obtain ⟨ck, hck⟩ : ∃ ck, ck = checkE has roots := ⟨_, rfl⟩
  rw [← hck]
  have HCK := Aside0.mk hck
  clear hal hH hcH hR hcR hck
  go_enter Try.func24, Try.ntmps24
  go_upto_region 1 with fail
  rw [← ho1]
  clear ho1
  generalize W.alloc o1 = w1 at HB HC ⊢
  have y0 := (blk_cell HC.out 0).trans rfl
  have y1 := (blk_cell HC.out 1).trans rfl
  go_wp2_with fail
  refine (check_calls w1 has roots AH cH AR cR (Kd.C_below HH.out.1 HB.out) HH.out.2 (Kd.C_below HR.out.1 HB.out) HR.out.2).mono ?_
  rintro e w2 ⟨rfl, hb2⟩
  rw [← HCK.out]
  have HB2 := Aside0.mk (below_step HB.out hb2)
  have HC2 := Aside0.mk (blk_below HC.out hb2)
  clear hb2 HB HC y0 y1
  by_cases h0 : ck = 0
  · have hed : (ck != 0) = false := by rw [h0]; decide
    have H0 := Aside0.mk h0
    have y0 := (blk_cell HC2.out 0).trans rfl
    have y1 := (blk_cell HC2.out 1).trans rfl
    obtain ⟨g1, g2, g3, g4⟩ := gr_of (HCK.out.symm.trans h0)
    clear h0
    have hcall := doms_calls w2 AH cH AR cR (Kd.C_below HH.out.1 HB2.out) (Kd.C_below HR.out.1 HB2.out) g1 g2 g3 g4
    have HCALL := Aside0.mk hcall
    clear hcall g1 g2 g3 g4
    go_wp2_with fail
    refine HCALL.out.mono ?_
    rintro e w3 ⟨g, vP, vo, vF, vD, ps, D, rfl, hO, hD, hb3⟩
    have c5 := hO.c5
    have hrd := hO.rd
    obtain ⟨AD, cD, eD, hcD⟩ := own_shape hrd
    subst eD
    have HL : Aside0 (D.length = has.length) := ⟨hO.ld⟩
    have HRD : Aside0 (Kd.R (Kd.int .i64) 3 w3 W.heap.size (fun _ => True) (.slice AD has.length cD) D) := ⟨Kd.R_lower (Kd.R_of_own (enc := Value.int .i64) (h1 := fun _ => rfl) (by rw [hO.ld]; exact hrd) (fun _ _ => trivial)) HB2.out.size⟩
    have HD := Aside0.mk hD
    have HB3 := Aside0.mk (below_step HB2.out hb3)
    clear hO hD hb3 hrd hcD HCALL y0 y1
    go_wp2_with fail
    go_ret2
    exact ⟨_, by rw [H0.out]; rfl, fun h => absurd H0.out h, fun _ => ⟨D, AD, cD, by first | (rw [HL.out]; done) | (rw [HL.out]; rfl), HRD.out, HL.out, HD.out⟩, HB3.out⟩
  · have hed : (ck != 0) = true := bne_iff_ne.mpr h0
    have H0 := Aside0.mk h0
    clear h0
    go_wp2_with fail
    go_ret2
    exact ⟨_, rfl, fun _ => rfl, fun h => absurd h H0.out, HB2.out⟩
/-! The closed fact. -/
def has5 : List (List Int) := [[1, 2], [3], [3], [], []]
theorem chk5 : checkE has5 [0] = 0 := by decide
theorem done5 : DoneG has5 [0] [-1, 0, 0, 0, -2] := by
  have G := (gr_of chk5).1
  have h1 := (rd_start G).next G
  have e1 : roundL (posF (placeL has5 [0])) (rowF (fromR has5 [0])) (bigK has5) (rpoL has5 [0]) (List.replicate has5.length (-2)) = ([-1, 0, 0, 0, -2], true) := by decide
  rw [e1] at h1
  have h2 := h1.1.next G
  have e2 : roundL (posF (placeL has5 [0])) (rowF (fromR has5 [0])) (bigK has5) (rpoL has5 [0]) [-1, 0, 0, 0, -2] = ([-1, 0, 0, 0, -2], false) := by decide
  rw [e2] at h2
  exact h2.2.2 rfl
theorem done_list {has : List (List Int)} {roots : List Int} (G : Gr has roots) {D E : List Int} (h1 : DoneG has roots D) (h2 : DoneG has roots E) (hl : D.length = E.length) : D = E := by
  have h := done_uniq G h1 h2
  apply List.ext_getElem hl
  intro i a b
  have := congrFun h (i : Int)
  unfold fnD at this
  rw [if_pos (by omega), if_pos (by omega), Int.toNat_natCast, List.getD_eq_getElem?_getD, List.getD_eq_getElem?_getD, List.getElem?_eq_getElem a, List.getElem?_eq_getElem b] at this
  exact this
theorem C_of_cells {α : Type} {d : Kd α} (hsz : d.sz = 1) {W : World} {g t : Nat} {vs : List Value} {xs : List α} (hb : W.heap[g]? = some (.cells vs.toArray t (0, 0))) (hl : vs.length = xs.length) (hz : xs.length ≤ 1000) (hk : ∀ i (h : i < xs.length), d.K W xs[i] [vs[i]'(by omega)]) : d.C W (some ⟨g, 0, none⟩) xs.length xs := by
  refine ⟨rfl, by omega, fun _ => ⟨_, rfl, fun j p hj => ?_⟩⟩
  obtain ⟨hj1, rfl⟩ := List.getElem?_eq_some_iff.1 hj
  refine ⟨[vs[j]'(by omega)], by rw [hsz]; rfl, hk j hj1, fun i u hu => ?_⟩
  cases i with
  | zero =>
    rw [hsz, Nat.mul_one, Nat.add_zero, add_plain, blk_cell hb, List.getElem?_toArray, List.getElem?_eq_getElem (by omega)]
    simpa using hu
  | succ i => simp at hu
theorem k_int (W : World) (x : Int) : (Kd.int .i64).K W x [.int .i64 x] := rfl
theorem k_row {W : World} {A : Option Addr} {l : List Int} {c : Nat} (h : (Kd.int .i64).C W A l.length l) (hc : l.length ≤ c) : (Kd.slice 3 (Kd.int .i64)).K W l [.slice A l.length c] := ⟨A, c, rfl, hc, h⟩
theorem c_ints {W : World} {g t : Nat} {l : List Int} (hb : W.heap[g]? = some (.cells (l.map (Value.int .i64)).toArray t (0, 0))) (hz : l.length ≤ 1000) : (Kd.int .i64).C W (some ⟨g, 0, none⟩) l.length l :=
  C_of_cells rfl hb (by simp) hz (fun i h => by rw [List.getElem_map]; exact k_int W _)
set_option maxHeartbeats 16000000 in
set_option maxRecDepth 100000 in
theorem owned_calls (w : World) : Calls Try.prog 23 #[] w fun e w' => e = .returned (.bool true) ∧ Below w.heap.size w w' := by
  obtain ⟨oa, hoa⟩ : ∃ ob, ob = Obj.cells #[.int .i64 1, .int .i64 2] 3 := ⟨_, rfl⟩
  obtain ⟨ob, hob⟩ : ∃ ob, ob = Obj.cells #[.int .i64 3] 3 := ⟨_, rfl⟩
  obtain ⟨oc, hoc⟩ : ∃ ob, ob = Obj.cells #[.slice (some ⟨w.heap.size, 0, none⟩) 2 2, .slice (some ⟨w.heap.size + 1, 0, none⟩) 1 1, .slice (some ⟨w.heap.size + 1 + 1, 0, none⟩) 1 1, .slice none 0 0, .slice none 0 0] 23 := ⟨_, rfl⟩
  obtain ⟨od, hod⟩ : ∃ ob, ob = Obj.cells #[.int .i64 0] 3 := ⟨_, rfl⟩
  have s1 : (w.alloc oa).heap.size = w.heap.size + 1 := by simp
  have s2 : ((w.alloc oa).alloc ob).heap.size = w.heap.size + 1 + 1 := by simp
  have s3 : (((w.alloc oa).alloc ob).alloc ob).heap.size = w.heap.size + 1 + 1 + 1 := by simp
  have s4 : ((((w.alloc oa).alloc ob).alloc ob).alloc oc).heap.size = w.heap.size + 1 + 1 + 1 + 1 := by simp
  have hal := below_alloc (below_alloc (below_alloc (below_alloc (below_alloc (Below.refl w.heap.size w) oa) ob) ob) oc) od
  have b0 : (((((w.alloc oa).alloc ob).alloc ob).alloc oc).alloc od).heap[w.heap.size]? = some (.cells ([(1 : Int), 2].map (Value.int .i64)).toArray 3 (0, 0)) := blk_alloc (blk_alloc (blk_alloc (blk_alloc (by rw [hoa]; exact blk_new w _) _) _) _) _
  have b1 : (((((w.alloc oa).alloc ob).alloc ob).alloc oc).alloc od).heap[w.heap.size + 1]? = some (.cells ([(3 : Int)].map (Value.int .i64)).toArray 3 (0, 0)) := blk_alloc (blk_alloc (blk_alloc (by have h_ := blk_new (w.alloc oa) ob; rw [s1] at h_; rw [hob] at h_ ⊢; exact h_) _) _) _
  have b2 : (((((w.alloc oa).alloc ob).alloc ob).alloc oc).alloc od).heap[w.heap.size + 1 + 1]? = some (.cells ([(3 : Int)].map (Value.int .i64)).toArray 3 (0, 0)) := blk_alloc (blk_alloc (by have h_ := blk_new ((w.alloc oa).alloc ob) ob; rw [s2] at h_; rw [hob] at h_ ⊢; exact h_) _) _
  have b3 : (((((w.alloc oa).alloc ob).alloc ob).alloc oc).alloc od).heap[w.heap.size + 1 + 1 + 1]? = some (.cells [Value.slice (some ⟨w.heap.size, 0, none⟩) 2 2, .slice (some ⟨w.heap.size + 1, 0, none⟩) 1 1, .slice (some ⟨w.heap.size + 1 + 1, 0, none⟩) 1 1, .slice none 0 0, .slice none 0 0].toArray 23 (0, 0)) := blk_alloc (by have h_ := blk_new (((w.alloc oa).alloc ob).alloc ob) oc; rw [s3] at h_; rw [h_, hoc]) _
  have b4 : (((((w.alloc oa).alloc ob).alloc ob).alloc oc).alloc od).heap[w.heap.size + 1 + 1 + 1 + 1]? = some (.cells ([(0 : Int)].map (Value.int .i64)).toArray 3 (0, 0)) := by have h_ := blk_new ((((w.alloc oa).alloc ob).alloc ob).alloc oc) od; rw [s4] at h_; rw [h_, hod]; rfl
  have HB := Aside0.mk hal
  have HH : Aside0 (Kd.C (Kd.slice 3 (Kd.int .i64)) (((((w.alloc oa).alloc ob).alloc ob).alloc oc).alloc od) (some ⟨w.heap.size + 1 + 1 + 1, 0, none⟩) has5.length has5) := ⟨C_of_cells rfl b3 rfl (by decide) (fun i h => by
    have h : i < 5 := h
    rcases i with _ | _ | _ | _ | _ | i
    · exact k_row (l := [1, 2]) (c_ints b0 (by decide)) (by decide)
    · exact k_row (l := [3]) (c_ints b1 (by decide)) (by decide)
    · exact k_row (l := [3]) (c_ints b2 (by decide)) (by decide)
    · exact k_row (l := []) (Kd.C_nil _ _) (by decide)
    · exact k_row (l := []) (Kd.C_nil _ _) (by decide)
    · omega)⟩
  have HR : Aside0 (Kd.C (Kd.int .i64) (((((w.alloc oa).alloc ob).alloc ob).alloc oc).alloc od) (some ⟨w.heap.size + 1 + 1 + 1 + 1, 0, none⟩) ([0] : List Int).length [0]) := ⟨c_ints b4 (by decide)⟩
  have HCALL := Aside0.mk (Doms_calls _ has5 [0] (some ⟨w.heap.size + 1 + 1 + 1, 0, none⟩) 5 (some ⟨w.heap.size + 1 + 1 + 1 + 1, 0, none⟩) 1 HH.out (by decide) HR.out (by decide))
  clear hal b0 b1 b2 b3 b4 s1 s2 s3 s4 HH HR
  go_enter Try.func23, Try.ntmps23
  go_wp2_with fail
  rw [← hoa, ← hob, ← hoc, ← hod]
  clear hoa hob hoc hod
  generalize ((((w.alloc oa).alloc ob).alloc ob).alloc oc).alloc od = w5 at HB HCALL ⊢
  refine HCALL.out.mono ?_
  rintro e w6 ⟨v, rfl, _, h2, hb6⟩
  rw [chk5] at h2
  obtain ⟨D, A, c, rfl, hr, hl, hd⟩ := h2 (by first | rfl | trivial)
  have hD : D = [-1, 0, 0, 0, -2] := done_list (gr_of chk5).1 hd done5 hl
  subst hD
  rw [chk5]
  have HB6 := Aside0.mk (below_step HB.out hb6)
  have hrc := (Kd.R_reads' hr).2
  have HRC := Aside0.mk hrc
  obtain ⟨o9, ho9⟩ : ∃ ob, ob = Obj.cells #[.int .i64 (-1), .int .i64 0, .int .i64 0, .int .i64 0, .int .i64 (-2)] 3 := ⟨_, rfl⟩
  have hal9 := below_alloc (Below.refl w6.heap.size w6) o9
  have HB9 := Aside0.mk (below_step HB6.out hal9)
  have hn9 : (w6.alloc o9).heap[w6.heap.size]? = some (.cells ([(-1 : Int), 0, 0, 0, -2].map (Value.int .i64)).toArray 3 (0, 0)) := by rw [ho9]; exact blk_new w6 _
  have HEQ := Aside0.mk (backstitchref3_Eq_int.calls 7 A c [-1, 0, 0, 0, -2] (some ⟨w6.heap.size, 0, none⟩) 5 [-1, 0, 0, 0, -2] true _ (Kd.C_below hrc.2 hal9) hrc.1 (c_ints hn9 (by decide)) (by decide) (by kernel_rfl))
  clear hr hl hd hb6 hrc hal9 hn9 HCALL h2 HB6
  have he0 : ((0 : Int) == 0) = true := by decide
  go_wp2_with fail
  rw [← ho9]
  clear ho9
  refine HEQ.out.mono ?_
  rintro e w8 ⟨rfl, hd8⟩
  have HB8 := Aside0.mk (below_step HB9.out hd8.below)
  clear hd8 HEQ
  go_wp2_with fail
  go_ret
  exact ⟨rfl, HB8.out⟩
end Go.Proofs.Ytoleplbmkdhgeaa.Own
