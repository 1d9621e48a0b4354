-- Printed (pr.sh).
import Derived.Test.YtkefekdphkclmaaPC0
import Derived.Test.YtkefekdphkclmaaPC3
import Derived.Test.YtkefekdphkclmaaPC5
import Derived.Test.YtkefekdphkclmaaPC6
namespace Go.Proofs.Ytkefekdphkclmaa.PC
open Go.RowKit Go.Proofs.YtkefekdphkclmaaW.PrintWords Go.Proofs.YtkefekdphkclmaaW.PrintLast Go.Proofs.YtkefekdphkclmaaW.PrintMore
attribute [local go_sem] max2_int min2_int max_two min_two max_three min_three max_four min_four   -- for this text's walks alone
set_option linter.unusedVariables false
set_option linter.unusedSimpArgs false

/-! ### words_reader_cell: function 39 -/
def words_reader_cell.l0 : Nat → Int → List Int → Int → Bool → Int → Int → List (S27) → List (S30) → Option (Int × Int × (List (S27)) × (List (S30)) × Int × Bool)
  | 0, _, _, _, _, _, _, _, _ => none
  | k + 1, x4, x1000, x1001, x1002, x209000, x209001, x209002, x209003 => if x4 > 0 then (if x1002 = true then (some (x209000, x209001, x209002, x209003, x1001, x1002)) else ((words_reader_frame.f k x1000 x1001 x1002).bind fun bt218 => (if x209003.length < 1466015503701 then (words_reader_cell.l0 k (wrap64 (x4 - 1)) x1000 bt218.2.2.2.2.2.2.2.2.1 bt218.2.2.2.2.2.2.2.2.2 x209000 x209001 x209002 (x209003 ++ [(⟨bt218.1, bt218.2.1, bt218.2.2.1, bt218.2.2.2.1, (⟨bt218.2.2.2.2.1, bt218.2.2.2.2.2.1⟩ : S27), bt218.2.2.2.2.2.2.1, bt218.2.2.2.2.2.2.2.1⟩ : S30)])) else (none)))) else (some (x209000, x209001, x209002, x209003, x1001, x1002))
def words_reader_cell.f (k : Nat) (s0_0 : List Int) (s0_1 : Int) (s0_2 : Bool) : Option (Int × Int × (List (S27)) × (List (S30)) × Int × Bool) := (words_reader_number.f s0_0 s0_1 s0_2).bind fun bt202 => ((words_reader_number.f s0_0 bt202.2.1 bt202.2.2).bind fun bt205 => ((words_most.f bt202.1).bind fun t209 => ((words_reader_values.f k s0_0 bt205.2.1 bt205.2.2 t209).bind fun bt210 => ((words_reader_many.f s0_0 bt210.2.1 bt210.2.2 30).bind fun bt215 => (words_reader_cell.l0 k bt215.1 s0_0 bt215.2.1 bt215.2.2 bt202.1 bt205.1 bt210.1 ([] : List (S30)))))))
theorem words_reader_cell.mono_l : ∀ k, (∀ y0 y1 y2 y3 y4 y5 y6 y7, LeO (words_reader_cell.l0 k y0 y1 y2 y3 y4 y5 y6 y7) (words_reader_cell.l0 (k + 1) y0 y1 y2 y3 y4 y5 y6 y7))
  | 0 => fun _ _ _ _ _ _ _ _ r h => by simp [words_reader_cell.l0] at h
  | k + 1 => by
    have ih0 := words_reader_cell.mono_l k
    · intro y0 y1 y2 y3 y4 y5 y6 y7
      unfold words_reader_cell.l0
      repeat' first
      | (with_reducible exact ih0 _ _ _ _ _ _ _ _)
      | (with_reducible exact words_reader_frame.mono _ _ _ _)
      | (with_reducible exact words_reader_values.mono _ _ _ _ _)
      | (with_reducible exact LeO.refl _)
      | (with_reducible exact LeO.none _)
      | (with_reducible refine LeO.ite ?_ ?_)
      | (with_reducible refine LeO.bind ?_ (fun _ => ?_))
      | exact ih0 _ _ _ _ _ _ _ _
      | exact words_reader_frame.mono _ _ _ _
      | exact words_reader_values.mono _ _ _ _ _
      | exact LeO.none _
      | refine LeO.ite ?_ ?_
      | refine LeO.bind ?_ (fun _ => ?_)
theorem words_reader_cell.mono : ∀ a0 a1 a2 k, LeO (words_reader_cell.f k a0 a1 a2) (words_reader_cell.f (k + 1) a0 a1 a2) := by
  intro a0 a1 a2 k
  have ih0 := words_reader_cell.mono_l k
  unfold words_reader_cell.f
  repeat' first
      | (with_reducible exact ih0 _ _ _ _ _ _ _ _)
      | (with_reducible exact words_reader_frame.mono _ _ _ _)
      | (with_reducible exact words_reader_values.mono _ _ _ _ _)
      | (with_reducible exact LeO.refl _)
      | (with_reducible exact LeO.none _)
      | (with_reducible refine LeO.ite ?_ ?_)
      | (with_reducible refine LeO.bind ?_ (fun _ => ?_))
      | exact ih0 _ _ _ _ _ _ _ _
      | exact words_reader_frame.mono _ _ _ _
      | exact words_reader_values.mono _ _ _ _ _
      | exact LeO.none _
      | refine LeO.ite ?_ ?_
      | refine LeO.bind ?_ (fun _ => ?_)
def words_reader_cell.T6 : Bool × List (List Nat × List Nat) := (true, [([], []), ([0], [0]), ([], []), ([2], [2]), ([3], [3]), ([1, 4, 3], [1, 4]), ([0, 1, 2, 3, 4, 5], []), ([6, 5, 5, 0, 1, 2, 3, 4, 5], [5, 6])])
def words_reader_cell.B6 : List Nat := [0, 1, 0, 4, 12, 31, 63, 127]
theorem words_reader_cell.tab6 : rtab .any (opsOf Try.f39 6) = words_reader_cell.T6 := by kernel_rfl
theorem words_reader_cell.bits6 : waitsOk words_reader_cell.T6.2 words_reader_cell.B6 = true := by kernel_rfl
set_option maxHeartbeats 8000000 in
set_option maxRecDepth 100000 in
theorem words_reader_cell.calls (k : Nat) (g : Nat) (s0_0 : List Int) (s0_1 : Int) (s0_2 : Bool) (r1 : Int) (r2 : Int) (r3 : List (S27)) (r4 : List (S30)) (r5 : Int) (r6 : Bool) (w0 w : World) (hI : IsS83 w0 w g s0_0 s0_1 s0_2) (hB : Below w0.heap.size w0 w) (h : words_reader_cell.f k s0_0 s0_1 s0_2 = some (r1, r2, r3, r4, r5, r6)) :
    Calls Try.prog 39 #[.pointer (some ⟨g, 0, none⟩)] w fun e w' => ∃ v2_ v3_ : Value, e = .returned (.agg #[.int .i64 r1, .int .i64 r2, v2_, v3_]) ∧ Kd.R k27 27 w' w.heap.size (fun _ => True) v2_ r3 ∧ Kd.S k30 30 w' w.heap.size (fun k_ => some k_ ≠ (v2_ : Value).ownBlock) v3_ r4 ∧ IsS83 w0 w' g s0_0 r5 r6 ∧ Below w0.heap.size w0 w' ∧ KeepBut w w' g none := by
  have hu25 := Try.underlying25
  have HI0 := Aside0.mk hI
  have HK := Aside0.mk (KeepBut.refl w g none)
  have HL := Aside0.mk hB.size
  clear hI
  have HW0 := Aside0.mk hB.size
  have HB := Aside0.mk hB
  clear hB
  have H : ((words_reader_number.f s0_0 s0_1 s0_2).bind fun bt202 => ((words_reader_number.f s0_0 bt202.2.1 bt202.2.2).bind fun bt205 => ((words_most.f bt202.1).bind fun t209 => ((words_reader_values.f k s0_0 bt205.2.1 bt205.2.2 t209).bind fun bt210 => ((words_reader_many.f s0_0 bt210.2.1 bt210.2.2 30).bind fun bt215 => (words_reader_cell.l0 k bt215.1 s0_0 bt215.2.1 bt215.2.2 bt202.1 bt205.1 bt210.1 ([] : List (S30)))))))) = some (r1, r2, r3, r4, r5, r6) := h
  clear h
  replace H := Option.bind_eq_some_iff.mp H
  obtain ⟨⟨t202, t203, t204⟩, A20, H⟩ := H
  replace H : ((words_reader_number.f s0_0 t203 t204).bind fun bt205 => ((words_most.f t202).bind fun t209 => ((words_reader_values.f k s0_0 bt205.2.1 bt205.2.2 t209).bind fun bt210 => ((words_reader_many.f s0_0 bt210.2.1 bt210.2.2 30).bind fun bt215 => (words_reader_cell.l0 k bt215.1 s0_0 bt215.2.1 bt215.2.2 t202 bt205.1 bt210.1 ([] : List (S30))))))) = some (r1, r2, r3, r4, r5, r6) := H
  have A2 := Aside0.mk A20
  clear A20
  replace H := Option.bind_eq_some_iff.mp H
  obtain ⟨⟨t205, t206, t207⟩, A30, H⟩ := H
  replace H : ((words_most.f t202).bind fun t209 => ((words_reader_values.f k s0_0 t206 t207 t209).bind fun bt210 => ((words_reader_many.f s0_0 bt210.2.1 bt210.2.2 30).bind fun bt215 => (words_reader_cell.l0 k bt215.1 s0_0 bt215.2.1 bt215.2.2 t202 t205 bt210.1 ([] : List (S30)))))) = some (r1, r2, r3, r4, r5, r6) := H
  have A3 := Aside0.mk A30
  clear A30
  replace H := Option.bind_eq_some_iff.mp H
  obtain ⟨t209, A40, H⟩ := H
  replace H : ((words_reader_values.f k s0_0 t206 t207 t209).bind fun bt210 => ((words_reader_many.f s0_0 bt210.2.1 bt210.2.2 30).bind fun bt215 => (words_reader_cell.l0 k bt215.1 s0_0 bt215.2.1 bt215.2.2 t202 t205 bt210.1 ([] : List (S30))))) = some (r1, r2, r3, r4, r5, r6) := H
  have A4 := Aside0.mk A40
  clear A40
  replace H := Option.bind_eq_some_iff.mp H
  obtain ⟨⟨t210, t213, t214⟩, A50, H⟩ := H
  replace H : ((words_reader_many.f s0_0 t213 t214 30).bind fun bt215 => (words_reader_cell.l0 k bt215.1 s0_0 bt215.2.1 bt215.2.2 t202 t205 t210 ([] : List (S30)))) = some (r1, r2, r3, r4, r5, r6) := H
  have A5 := Aside0.mk A50
  clear A50
  replace H := Option.bind_eq_some_iff.mp H
  obtain ⟨⟨t215, t216, t217⟩, A60, H⟩ := H
  replace H : (words_reader_cell.l0 k t215 s0_0 t216 t217 t202 t205 t210 ([] : List (S30))) = some (r1, r2, r3, r4, r5, r6) := H
  have A6 := Aside0.mk A60
  clear A60
  have H' := Aside0.mk H
  clear H
  go_enter Try.func39, Try.ntmps39
  go_wp2_with (first | ((with_reducible refine gate_dst (N := 2) rfl ?_); refine box_event ?hg (N := 2) ?hd (cs := #[.int .i64 0, .int .i64 0, .slice none 0 0, .slice none 0 0]) (t := 25) ?hr ?_; (case hd => rfl); (case hg => rfl); (case hr => first | (go_simp; done) | (go_simp; rfl)); intro gb201 hg w7 hbox hb; have n0_ := Aside0.mk (IsS83.below (by repeat (first | (with_reducible first | exact HI0.out | apply IsS83.alloc | apply IsS83.drewN | apply IsS83.drew | apply IsS83.set_1 | apply IsS83.set_2) | exact HI0.out)) hb); have n1_ := Aside0.mk (KeepBut.trans (by repeat (first | (with_reducible first | exact HK.out | apply KeepBut.set_ | apply keep_drewN | apply keep_drew | apply keep_alloc) | exact HK.out)) (KeepBut.of_below hb g none) (.inl rfl)); have n2_ := Aside0.mk (below_step (by repeat (first | (with_reducible first | exact HB.out | apply below_alloc | apply pw_below_drewN | apply below_drew1 | refine below_set ?_ (IsS83.ge HI0.out)) | exact HB.out)) hb); have n3_ := Aside0.mk (hbox); have n4_ := Aside0.mk ((by rw [hg]; exact (keep_size (w := w) (g := g) (row := none) (by repeat (first | (with_reducible first | exact HK.out | apply KeepBut.set_ | apply keep_drewN | apply keep_drew | apply keep_alloc) | exact HK.out))) : w.heap.size ≤ gb201)); have n5_ := Aside0.mk ((Nat.le_trans HW0.out (by rw [hg]; exact (keep_size (w := w) (g := g) (row := none) (by repeat (first | (with_reducible first | exact HK.out | apply KeepBut.set_ | apply keep_drewN | apply keep_drew | apply keep_alloc) | exact HK.out))) : w.heap.size ≤ gb201) : w0.heap.size ≤ gb201)); have n6_ := Aside0.mk ((by rw [hg]; exact Nat.ne_of_lt (IsS83.lt (show IsS83 w0 _ g s0_0 s0_1 s0_2 from by repeat (first | (with_reducible first | exact HI0.out | apply IsS83.alloc | apply IsS83.drewN | apply IsS83.drew | apply IsS83.set_1 | apply IsS83.set_2) | exact HI0.out))) : g ≠ gb201)); have n7_ := Aside0.mk ((by rw [hg]; exact Nat.ne_of_gt (IsS83.lt (show IsS83 w0 _ g s0_0 s0_1 s0_2 from by repeat (first | (with_reducible first | exact HI0.out | apply IsS83.alloc | apply IsS83.drewN | apply IsS83.drew | apply IsS83.set_1 | apply IsS83.set_2) | exact HI0.out))) : gb201 ≠ g)); clear HI0; clear HK; clear HB; have HI0 := n0_; have HK := n1_; have HB := n2_; have BK201 := n3_; have GW201 := n4_; have GE201 := n5_; have NB0_201 := n6_; have NB201_0 := n7_; clear n0_ n1_ n2_ n3_ n4_ n5_ n6_ n7_; clear hb hbox hg) | ((with_reducible refine gate_callee (f := 58) rfl ?_); refine goesL_ (some 6) rfl rfl Try.func58 (by kernel_rfl) rfl #[.pointer (some ⟨g, 0, none⟩)] rfl (by (try simp only [List.map_toArray, List.map_cons, List.map_nil]); first | done | rfl | (simp only [List.length_drop, List.length_take]; rfl)) ?_; (with_reducible refine (words_reader_number.calls g s0_0 s0_1 s0_2 t202 t203 t204 w0 _ ?side1 ?side2 A2.out).mono ?_); (case side1 => repeat (first | (with_reducible first | exact HI0.out | apply IsS83.alloc | apply IsS83.drewN | apply IsS83.drew | apply IsS83.set_1 | apply IsS83.set_2 | refine IsS83.far ?_ NB0_201.out _ | apply IsS83.far (hne := NB0_201.out)) | exact HI0.out)); (case side2 => repeat (first | (with_reducible first | exact HB.out | apply below_alloc | apply pw_below_drewN | apply below_drew1 | refine below_set ?_ (IsS83.ge HI0.out) | refine below_set ?_ GE201.out) | exact HB.out)); rintro e w8 ⟨rfl, hi, hb, hk⟩; refine ⟨_, rfl, ?_⟩; have n0_ := Aside0.mk (KeepBut.blk hk (g' := gb201) (o := .cells #[.int .i64 0, .int .i64 0, .slice none 0 0, .slice none 0 0] 25 (0, 0)) (by (with_reducible repeat (first | refine blk_drewN ?_ _ | refine blk_drew ?_ | refine blk_alloc ?_ _)); exact BK201.out) NB201_0.out (by simp)); have n1_ := Aside0.mk (KeepBut.trans (by repeat (first | (with_reducible first | exact HK.out | apply KeepBut.set_ | apply keep_drewN | apply keep_drew | apply keep_alloc | refine keep_far ?_ GW201.out _) | exact HK.out)) hk (.inl rfl)); have n2_ := Aside0.mk (hb); have n3_ := Aside0.mk (hi); clear BK201; clear HK; clear HB; clear HI0; have BK201 := n0_; have HK := n1_; have HB := n2_; have HI0 := n3_; clear n0_ n1_ n2_ n3_; (try clear hb); (try clear hb2); (try clear hk); (try clear hi)) | ((with_reducible refine gate_callee (f := 58) rfl ?_); refine goesL_ (some 8) rfl rfl Try.func58 (by kernel_rfl) rfl #[.pointer (some ⟨g, 0, none⟩)] rfl (by (try simp only [List.map_toArray, List.map_cons, List.map_nil]); first | done | rfl | (simp only [List.length_drop, List.length_take]; rfl)) ?_; (with_reducible refine (words_reader_number.calls g s0_0 t203 t204 t205 t206 t207 w0 _ ?side1 ?side2 A3.out).mono ?_); (case side1 => repeat (first | (with_reducible first | exact HI0.out | apply IsS83.alloc | apply IsS83.drewN | apply IsS83.drew | apply IsS83.set_1 | apply IsS83.set_2 | refine IsS83.far ?_ NB0_201.out _ | apply IsS83.far (hne := NB0_201.out)) | exact HI0.out)); (case side2 => repeat (first | (with_reducible first | exact HB.out | apply below_alloc | apply pw_below_drewN | apply below_drew1 | refine below_set ?_ (IsS83.ge HI0.out) | refine below_set ?_ GE201.out) | exact HB.out)); rintro e w9 ⟨rfl, hi, hb, hk⟩; refine ⟨_, rfl, ?_⟩; have n0_ := Aside0.mk (KeepBut.blk hk (g' := gb201) (o := .cells #[.int .i64 0, .int .i64 0, .slice none 0 0, .slice none 0 0] 25 (0, 0)) (by (with_reducible repeat (first | refine blk_drewN ?_ _ | refine blk_drew ?_ | refine blk_alloc ?_ _)); exact BK201.out) NB201_0.out (by simp)); have n1_ := Aside0.mk (KeepBut.trans (by repeat (first | (with_reducible first | exact HK.out | apply KeepBut.set_ | apply keep_drewN | apply keep_drew | apply keep_alloc | refine keep_far ?_ GW201.out _) | exact HK.out)) hk (.inl rfl)); have n2_ := Aside0.mk (hb); have n3_ := Aside0.mk (hi); clear BK201; clear HK; clear HB; clear HI0; have BK201 := n0_; have HK := n1_; have HB := n2_; have HI0 := n3_; clear n0_ n1_ n2_ n3_; (try clear hb); (try clear hb2); (try clear hk); (try clear hi)) | ((with_reducible refine gate_dst (N := 3) rfl ?_); refine box_event ?hg (N := 3) ?hd (cs := #[.int .i64 0, .int .i64 0, .slice none 0 0, .slice none 0 0]) (t := 25) ?hr ?_; (case hd => rfl); (case hg => rfl); (case hr => first | (go_simp; done) | (go_simp; rfl)); intro gb208 hg w10 hbox hb; have n0_ := Aside0.mk (IsS83.below (by repeat (first | (with_reducible first | exact HI0.out | apply IsS83.alloc | apply IsS83.drewN | apply IsS83.drew | apply IsS83.set_1 | apply IsS83.set_2 | refine IsS83.far ?_ NB0_201.out _ | apply IsS83.far (hne := NB0_201.out)) | exact HI0.out)) hb); have n1_ := Aside0.mk (blk_below (g := gb201) (o := .cells #[.int .i64 0, .int .i64 0, .slice none 0 0, .slice none 0 0] 25 (0, 0)) (by (with_reducible repeat (first | refine blk_drewN ?_ _ | refine blk_drew ?_ | refine blk_alloc ?_ _)); exact BK201.out) hb); have n2_ := Aside0.mk (KeepBut.trans (by repeat (first | (with_reducible first | exact HK.out | apply KeepBut.set_ | apply keep_drewN | apply keep_drew | apply keep_alloc | refine keep_far ?_ GW201.out _) | exact HK.out)) (KeepBut.of_below hb g none) (.inl rfl)); have n3_ := Aside0.mk (below_step (by repeat (first | (with_reducible first | exact HB.out | apply below_alloc | apply pw_below_drewN | apply below_drew1 | refine below_set ?_ (IsS83.ge HI0.out) | refine below_set ?_ GE201.out) | exact HB.out)) hb); have n4_ := Aside0.mk (hbox); have n5_ := Aside0.mk ((by rw [hg]; exact (keep_size (w := w) (g := g) (row := none) (by repeat (first | (with_reducible first | exact HK.out | apply KeepBut.set_ | apply keep_drewN | apply keep_drew | apply keep_alloc | refine keep_far ?_ GW201.out _) | exact HK.out))) : w.heap.size ≤ gb208)); have n6_ := Aside0.mk ((Nat.le_trans HW0.out (by rw [hg]; exact (keep_size (w := w) (g := g) (row := none) (by repeat (first | (with_reducible first | exact HK.out | apply KeepBut.set_ | apply keep_drewN | apply keep_drew | apply keep_alloc | refine keep_far ?_ GW201.out _) | exact HK.out))) : w.heap.size ≤ gb208) : w0.heap.size ≤ gb208)); have n7_ := Aside0.mk ((by rw [hg]; exact Nat.ne_of_lt (blk_lt (g := gb201) (o := .cells #[.int .i64 0, .int .i64 0, .slice none 0 0, .slice none 0 0] 25 (0, 0)) (by (with_reducible repeat (first | refine blk_drewN ?_ _ | refine blk_drew ?_ | refine blk_alloc ?_ _)); exact BK201.out)) : gb201 ≠ gb208)); have n8_ := Aside0.mk ((by rw [hg]; exact Nat.ne_of_gt (blk_lt (g := gb201) (o := .cells #[.int .i64 0, .int .i64 0, .slice none 0 0, .slice none 0 0] 25 (0, 0)) (by (with_reducible repeat (first | refine blk_drewN ?_ _ | refine blk_drew ?_ | refine blk_alloc ?_ _)); exact BK201.out)) : gb208 ≠ gb201)); have n9_ := Aside0.mk ((by rw [hg]; exact Nat.ne_of_lt (IsS83.lt (show IsS83 w0 _ g s0_0 t206 t207 from by repeat (first | (with_reducible first | exact HI0.out | apply IsS83.alloc | apply IsS83.drewN | apply IsS83.drew | apply IsS83.set_1 | apply IsS83.set_2 | refine IsS83.far ?_ NB0_201.out _ | apply IsS83.far (hne := NB0_201.out)) | exact HI0.out))) : g ≠ gb208)); have n10_ := Aside0.mk ((by rw [hg]; exact Nat.ne_of_gt (IsS83.lt (show IsS83 w0 _ g s0_0 t206 t207 from by repeat (first | (with_reducible first | exact HI0.out | apply IsS83.alloc | apply IsS83.drewN | apply IsS83.drew | apply IsS83.set_1 | apply IsS83.set_2 | refine IsS83.far ?_ NB0_201.out _ | apply IsS83.far (hne := NB0_201.out)) | exact HI0.out))) : gb208 ≠ g)); clear HI0; clear BK201; clear HK; clear HB; have HI0 := n0_; have BK201 := n1_; have HK := n2_; have HB := n3_; have BK208 := n4_; have GW208 := n5_; have GE208 := n6_; have NB201_208 := n7_; have NB208_201 := n8_; have NB0_208 := n9_; have NB208_0 := n10_; clear n0_ n1_ n2_ n3_ n4_ n5_ n6_ n7_ n8_ n9_ n10_; clear hb hbox hg; have hnb11 := NB208_201.out; have hnc11 := NB201_208.out; have hnb12 := NB208_0.out; have hnc12 := NB0_208.out; have hcz13_0 : w10.cell? ⟨gb208, 0, none⟩ = some (.int .i64 0) := (blk_cell BK208.out 0).trans rfl; have hcz13_1 : w10.cell? ⟨gb208, 1, none⟩ = some (.int .i64 0) := (blk_cell BK208.out 1).trans rfl; have hcz13_2 : w10.cell? ⟨gb208, 2, none⟩ = some (.slice none 0 0) := (blk_cell BK208.out 2).trans rfl; have hcz13_3 : w10.cell? ⟨gb208, 3, none⟩ = some (.slice none 0 0) := (blk_cell BK208.out 3).trans rfl; have hfz13_0 := blk_frozen BK208.out 0; have hfz13_1 := blk_frozen BK208.out 1; have hfz13_2 := blk_frozen BK208.out 2; have hfz13_3 := blk_frozen BK208.out 3) | ((with_reducible refine gate_callee (f := 54) rfl ?_); refine goesL_ (some 13) rfl rfl Try.func54 (by kernel_rfl) rfl #[.int .i64 t202] rfl (by (try simp only [List.map_toArray, List.map_cons, List.map_nil]); first | done | rfl | (simp only [List.length_drop, List.length_take]; rfl)) ?_; (with_reducible refine (words_most.calls t202 t209 _ A4.out).mono ?_); rintro e w' ⟨rfl, ⟨nd, rfl⟩⟩; refine ⟨_, rfl, ?_⟩) | ((with_reducible refine gate_callee (f := 59) rfl ?_); refine goesL_ (some 14) rfl rfl Try.func59 (by kernel_rfl) rfl #[.pointer (some ⟨g, 0, none⟩), .int .i64 t209] rfl (by (try simp only [List.map_toArray, List.map_cons, List.map_nil]); first | done | rfl | (simp only [List.length_drop, List.length_take]; rfl)) ?_; (with_reducible refine (words_reader_values.calls k g s0_0 t206 t207 t209 t210 t213 t214 w0 _ ?side1 ?side2 A5.out).mono ?_); (case side1 => repeat (first | (with_reducible first | exact HI0.out | apply IsS83.alloc | apply IsS83.drewN | apply IsS83.drew | apply IsS83.set_1 | apply IsS83.set_2 | refine IsS83.far ?_ NB0_201.out _ | apply IsS83.far (hne := NB0_201.out) | refine IsS83.far ?_ NB0_208.out _ | apply IsS83.far (hne := NB0_208.out)) | exact HI0.out)); (case side2 => repeat (first | (with_reducible first | exact HB.out | apply below_alloc | apply pw_below_drewN | apply below_drew1 | refine below_set ?_ (IsS83.ge HI0.out) | refine below_set ?_ GE201.out | refine below_set ?_ GE208.out) | exact HB.out)); rintro e w14 ⟨v211, rfl, ho0, hi, hb, hk⟩; refine ⟨_, rfl, ?_⟩; have n0_ := Aside0.mk (KeepBut.blk hk (g' := gb201) (o := .cells #[.int .i64 0, .int .i64 0, .slice none 0 0, .slice none 0 0] 25 (0, 0)) (by (with_reducible repeat (first | refine blk_drewN ?_ _ | refine blk_drew ?_ | refine blk_alloc ?_ _)); refine blk_far ?_ NB201_208.out _; (with_reducible repeat (first | refine blk_drewN ?_ _ | refine blk_drew ?_ | refine blk_alloc ?_ _)); refine blk_far ?_ NB201_208.out _; (with_reducible repeat (first | refine blk_drewN ?_ _ | refine blk_drew ?_ | refine blk_alloc ?_ _)); refine blk_far ?_ NB201_208.out _; (with_reducible repeat (first | refine blk_drewN ?_ _ | refine blk_drew ?_ | refine blk_alloc ?_ _)); refine blk_far ?_ NB201_208.out _; (with_reducible repeat (first | refine blk_drewN ?_ _ | refine blk_drew ?_ | refine blk_alloc ?_ _)); exact BK201.out) NB201_0.out (by simp)); have n1_ := Aside0.mk (KeepBut.blk hk (g' := gb208) (o := .cells #[.int .i64 t202, .int .i64 t205, .slice none 0 0, .slice none 0 0] 25 (0, 0)) (by (with_reducible repeat (first | refine blk_drewN ?_ _ | refine blk_drew ?_ | refine blk_alloc ?_ _)); refine blk_put (cs := #[.int .i64 t202, .int .i64 t205, .slice none 0 0, .slice none 0 0]) ?_ 3 _ rfl; (with_reducible repeat (first | refine blk_drewN ?_ _ | refine blk_drew ?_ | refine blk_alloc ?_ _)); refine blk_put (cs := #[.int .i64 t202, .int .i64 t205, .slice none 0 0, .slice none 0 0]) ?_ 2 _ rfl; (with_reducible repeat (first | refine blk_drewN ?_ _ | refine blk_drew ?_ | refine blk_alloc ?_ _)); refine blk_put (cs := #[.int .i64 t202, .int .i64 0, .slice none 0 0, .slice none 0 0]) ?_ 1 _ rfl; (with_reducible repeat (first | refine blk_drewN ?_ _ | refine blk_drew ?_ | refine blk_alloc ?_ _)); refine blk_put (cs := #[.int .i64 0, .int .i64 0, .slice none 0 0, .slice none 0 0]) ?_ 0 _ rfl; (with_reducible repeat (first | refine blk_drewN ?_ _ | refine blk_drew ?_ | refine blk_alloc ?_ _)); exact BK208.out) NB208_0.out (by simp)); have n2_ := Aside0.mk (Kd.R_lower ho0 (keep_size (w := w) (g := g) (row := none) (by repeat (first | (with_reducible first | exact HK.out | apply KeepBut.set_ | apply keep_drewN | apply keep_drew | apply keep_alloc | refine keep_far ?_ GW201.out _ | refine keep_far ?_ GW208.out _) | exact HK.out)))); have n3_ := Aside0.mk (KeepBut.trans (by repeat (first | (with_reducible first | exact HK.out | apply KeepBut.set_ | apply keep_drewN | apply keep_drew | apply keep_alloc | refine keep_far ?_ GW201.out _ | refine keep_far ?_ GW208.out _) | exact HK.out)) hk (.inl rfl)); have n4_ := Aside0.mk (hb); have n5_ := Aside0.mk (hi); clear BK201; clear BK208; clear HK; clear HB; clear HI0; have BK201 := n0_; have BK208 := n1_; have HO212 := n2_; have HK := n3_; have HB := n4_; have HI0 := n5_; clear n0_ n1_ n2_ n3_ n4_ n5_; (try clear hb); (try clear hb2); (try clear hk); (try clear hi); (try clear ho0); obtain ⟨Ao15, co15, eo15⟩ := Kd.R_slice HO212.out; subst eo15; have hcz16_0 : w14.cell? ⟨gb208, 0, none⟩ = some (.int .i64 t202) := (blk_cell BK208.out 0).trans rfl; have hcz16_1 : w14.cell? ⟨gb208, 1, none⟩ = some (.int .i64 t205) := (blk_cell BK208.out 1).trans rfl; have hcz16_2 : w14.cell? ⟨gb208, 2, none⟩ = some (.slice none 0 0) := (blk_cell BK208.out 2).trans rfl; have hcz16_3 : w14.cell? ⟨gb208, 3, none⟩ = some (.slice none 0 0) := (blk_cell BK208.out 3).trans rfl; have hfz16_0 := blk_frozen BK208.out 0; have hfz16_1 := blk_frozen BK208.out 1; have hfz16_2 := blk_frozen BK208.out 2; have hfz16_3 := blk_frozen BK208.out 3) | ((with_reducible refine gate_callee (f := 42) rfl ?_); refine goesL_ (some 17) rfl rfl Try.func42 (by kernel_rfl) rfl #[.pointer (some ⟨g, 0, none⟩), .int .i64 30] rfl (by (try simp only [List.map_toArray, List.map_cons, List.map_nil]); first | done | rfl | (simp only [List.length_drop, List.length_take]; rfl)) ?_; (with_reducible refine (words_reader_many.calls g s0_0 t213 t214 30 t215 t216 t217 w0 _ ?side1 ?side2 A6.out).mono ?_); (case side1 => repeat (first | (with_reducible first | exact HI0.out | apply IsS83.alloc | apply IsS83.drewN | apply IsS83.drew | apply IsS83.set_1 | apply IsS83.set_2 | refine IsS83.far ?_ NB0_201.out _ | apply IsS83.far (hne := NB0_201.out) | refine IsS83.far ?_ NB0_208.out _ | apply IsS83.far (hne := NB0_208.out)) | exact HI0.out)); (case side2 => repeat (first | (with_reducible first | exact HB.out | apply below_alloc | apply pw_below_drewN | apply below_drew1 | refine below_set ?_ (IsS83.ge HI0.out) | refine below_set ?_ GE201.out | refine below_set ?_ GE208.out) | exact HB.out)); rintro e w17 ⟨rfl, hi, hb, hk⟩; refine ⟨_, rfl, ?_⟩; have n0_ := Aside0.mk (KeepBut.blk hk (g' := gb201) (o := .cells #[.int .i64 0, .int .i64 0, .slice none 0 0, .slice none 0 0] 25 (0, 0)) (by (with_reducible repeat (first | refine blk_drewN ?_ _ | refine blk_drew ?_ | refine blk_alloc ?_ _)); refine blk_far ?_ NB201_208.out _; (with_reducible repeat (first | refine blk_drewN ?_ _ | refine blk_drew ?_ | refine blk_alloc ?_ _)); exact BK201.out) NB201_0.out (by simp)); have n1_ := Aside0.mk (KeepBut.blk hk (g' := gb208) (o := .cells #[.int .i64 t202, .int .i64 t205, .slice Ao15 t210.length co15, .slice none 0 0] 25 (0, 0)) (by (with_reducible repeat (first | refine blk_drewN ?_ _ | refine blk_drew ?_ | refine blk_alloc ?_ _)); refine blk_put (cs := #[.int .i64 t202, .int .i64 t205, .slice none 0 0, .slice none 0 0]) ?_ 2 _ rfl; (with_reducible repeat (first | refine blk_drewN ?_ _ | refine blk_drew ?_ | refine blk_alloc ?_ _)); exact BK208.out) NB208_0.out (by simp)); have n2_ := Aside0.mk (Kd.R_mono (Kd.R_keep (IsS83.apart (show IsS83 w0 _ g s0_0 t213 t214 from by repeat (first | (with_reducible first | exact HI0.out | apply IsS83.alloc | apply IsS83.drewN | apply IsS83.drew | apply IsS83.set_1 | apply IsS83.set_2 | refine IsS83.far ?_ NB0_201.out _ | apply IsS83.far (hne := NB0_201.out) | refine IsS83.far ?_ NB0_208.out _ | apply IsS83.far (hne := NB0_208.out)) | exact HI0.out)) (by (with_reducible repeat (first | apply Kd.R_alloc | apply Kd.R_drewN | apply Kd.R_drew)); exact (Kd.R_mono (Kd.R_far (p := ⟨gb208, 2, none⟩) (Kd.R_types HO212.out BK208.out (by decide)) (fun _ hk => hk.2) (.slice Ao15 t210.length co15)) (fun _ h_ => h_.1))) (by decide)) hk (fun _ h => h.2)) (fun _ h => h.1)); have n3_ := Aside0.mk (KeepBut.trans (by repeat (first | (with_reducible first | exact HK.out | apply KeepBut.set_ | apply keep_drewN | apply keep_drew | apply keep_alloc | refine keep_far ?_ GW201.out _ | refine keep_far ?_ GW208.out _) | exact HK.out)) hk (.inl rfl)); have n4_ := Aside0.mk (hb); have n5_ := Aside0.mk (hi); clear BK201; clear BK208; clear HO212; clear HK; clear HB; clear HI0; have BK201 := n0_; have BK208 := n1_; have HO212 := n2_; have HK := n3_; have HB := n4_; have HI0 := n5_; clear n0_ n1_ n2_ n3_ n4_ n5_; (try clear hb); (try clear hb2); (try clear hk); (try clear hi)))
  go_loopg [4] k (fun kq v4 w' => ∃ (x4_1 : Int) (x1001_1 : Int) (x1002_1 : Bool) (x209003_1 : List (S30)) (u209003 : Value), v4 = .int .i64 x4_1 ∧ Aside0 (words_reader_cell.l0 kq x4_1 s0_0 x1001_1 x1002_1 t202 t205 t210 x209003_1 = some (r1, r2, r3, r4, r5, r6)) ∧ Aside0 (kq ≤ k) ∧ Aside0 (Kd.R k27 27 w' w.heap.size (fun _ => True) (.slice Ao15 t210.length co15) t210) ∧ Aside0 (Kd.S k30 30 w' w.heap.size (fun k_ => some k_ ≠ ((.slice Ao15 t210.length co15) : Value).ownBlock) u209003 x209003_1) ∧ Aside0 (w'.heap[gb201]? = some (.cells #[.int .i64 0, .int .i64 0, (.slice none 0 0), (.slice none 0 0)] 25 (0, 0))) ∧ Aside0 (w'.heap[gb208]? = some (.cells #[.int .i64 t202, .int .i64 t205, (.slice Ao15 t210.length co15), u209003] 25 (0, 0))) ∧ Aside0 (IsS83 w0 w' g s0_0 x1001_1 x1002_1) ∧ Aside0 (KeepBut w w' g none) ∧ Aside0 (Below w0.heap.size w0 w'))
  case atStart => exact ⟨(t215), (t216), (t217), (([] : List (S30))), (.slice none 0 0), (by first | rfl | (simp; done) | (simp [*]; done)), H', ⟨Nat.le_refl _⟩, ⟨by (with_reducible repeat (first | apply Kd.R_alloc | apply Kd.R_drewN | apply Kd.R_drew)); exact HO212.out⟩, ⟨by first | exact Kd.S_nil _ _ _ _ _ | exact Kd.N_nil _ _ _ _ _ | exact Kd.V_nil _ _ _ _ _ | exact Kd.Q_nil _ _ _ _ _ | exact Kd.R_nil _ _ _ _ _⟩, ⟨by (with_reducible repeat (first | refine blk_drewN ?_ _ | refine blk_drew ?_ | refine blk_alloc ?_ _)); exact BK201.out⟩, ⟨by (with_reducible repeat (first | refine blk_drewN ?_ _ | refine blk_drew ?_ | refine blk_alloc ?_ _)); exact BK208.out⟩, ⟨by repeat (first | (with_reducible first | exact HI0.out | apply IsS83.alloc | apply IsS83.drewN | apply IsS83.drew | apply IsS83.set_1 | apply IsS83.set_2 | refine IsS83.far ?_ NB0_201.out _ | apply IsS83.far (hne := NB0_201.out) | refine IsS83.far ?_ NB0_208.out _ | apply IsS83.far (hne := NB0_208.out)) | exact HI0.out)⟩, ⟨by repeat (first | (with_reducible first | exact HK.out | apply KeepBut.set_ | apply keep_drewN | apply keep_drew | apply keep_alloc | refine keep_far ?_ GW201.out _ | refine keep_far ?_ GW208.out _) | exact HK.out)⟩, ⟨by repeat (first | (with_reducible first | exact HB.out | apply below_alloc | apply pw_below_drewN | apply below_drew1 | refine below_set ?_ (IsS83.ge HI0.out) | refine below_set ?_ GE201.out | refine below_set ?_ GE208.out) | exact HB.out)⟩⟩
  case round =>
    clear H'
    try clear c1
    try clear p2
    try clear c3
    try clear c4
    try clear c5
    try clear c11
    try clear c12
    try clear hcz13_0
    try clear hcz13_1
    try clear hcz13_2
    try clear hcz13_3
    try clear hcz16_0
    try clear hcz16_1
    try clear hcz16_2
    try clear hcz16_3
    try clear hfz13_0
    try clear hfz13_1
    try clear hfz13_2
    try clear hfz13_3
    try clear hfz16_0
    try clear hfz16_1
    try clear hfz16_2
    try clear hfz16_3
    obtain ⟨x4_1, x1001_1, x1002_1, x209003_1, u209003, rfl, HA, HK1, HO_209002, HO_209003, BK201, BK208, HI0, HK, HB⟩ := hrel
    cases gk with
    | zero => exact absurd HA.out (by simp [words_reader_cell.l0])
    | succ k1 =>
      have H := HA.out
      clear HA
      simp only [words_reader_cell.l0] at H
      by_cases c18 : x4_1 > 0
      · rw [if_pos c18] at H
        have c18b0 : decide (0 < x4_1) = true := decide_eq_true c18
        clear c18
        by_cases c19 : x1002_1 = true
        · subst c19
          have H1 : (some (t202, t205, t210, x209003_1, x1001_1, true)) = some (r1, r2, r3, r4, r5, r6) := by rw [if_pos rfl] at H; exact H
          clear H
          have H := H1
          clear H1
          simp only [Option.some.injEq, Prod.mk.injEq] at H
          obtain ⟨rfl, rfl, rfl, rfl, rfl, rfl⟩ := H
          obtain ⟨ASz20_0, cSz20_0, HGz20, hgz20, HSz20_0⟩ := HI0.out
          have hcz20_0 := cellS83_0 HGz20
          have hcz20_1 := cellS83_1 HGz20
          have hcz20_2 := cellS83_2 HGz20
          have hfz20_1 := blk_frozen HGz20 1
          have hfz20_2 := blk_frozen HGz20 2
          clear HGz20 hgz20
          have hnb21 := NB208_201.out
          have hnc21 := NB201_208.out
          have hnb22 := NB208_0.out
          have hnc22 := NB0_208.out
          have hcz23_0 : wr.cell? ⟨gb208, 0, none⟩ = some (.int .i64 t202) := (blk_cell BK208.out 0).trans rfl
          have hcz23_1 : wr.cell? ⟨gb208, 1, none⟩ = some (.int .i64 t205) := (blk_cell BK208.out 1).trans rfl
          have hcz23_2 : wr.cell? ⟨gb208, 2, none⟩ = some (.slice Ao15 t210.length co15) := (blk_cell BK208.out 2).trans rfl
          have hcz23_3 : wr.cell? ⟨gb208, 3, none⟩ = some (u209003) := (blk_cell BK208.out 3).trans rfl
          have hfz23_0 := blk_frozen BK208.out 0
          have hfz23_1 := blk_frozen BK208.out 1
          have hfz23_2 := blk_frozen BK208.out 2
          have hfz23_3 := blk_frozen BK208.out 3
          have hnb24 := NB201_0.out
          have hnc24 := NB0_201.out
          have hcz25_0 : wr.cell? ⟨gb201, 0, none⟩ = some (.int .i64 0) := (blk_cell BK201.out 0).trans rfl
          have hcz25_1 : wr.cell? ⟨gb201, 1, none⟩ = some (.int .i64 0) := (blk_cell BK201.out 1).trans rfl
          have hcz25_2 : wr.cell? ⟨gb201, 2, none⟩ = some (.slice none 0 0) := (blk_cell BK201.out 2).trans rfl
          have hcz25_3 : wr.cell? ⟨gb201, 3, none⟩ = some (.slice none 0 0) := (blk_cell BK201.out 3).trans rfl
          have hfz25_0 := blk_frozen BK201.out 0
          have hfz25_1 := blk_frozen BK201.out 1
          have hfz25_2 := blk_frozen BK201.out 2
          have hfz25_3 := blk_frozen BK201.out 3
          obtain ⟨Ao26, co26, eo26⟩ := Kd.S_slice HO_209003.out
          subst eo26
          go_wp2
          refine bodyPost_ret (results_cell_row rfl _ _ gb201 25 #[.int .i64 t202, .int .i64 t205, .slice Ao15 t210.length co15, .slice Ao26 x209003_1.length co26] (0, 0) _ rfl (by (with_reducible repeat (first | refine blk_drewN ?_ _ | refine blk_drew ?_ | refine blk_alloc ?_ _)); refine blk_put (cs := #[.int .i64 t202, .int .i64 t205, .slice Ao15 t210.length co15, .slice none 0 0]) ?_ 3 _ rfl; (with_reducible repeat (first | refine blk_drewN ?_ _ | refine blk_drew ?_ | refine blk_alloc ?_ _)); refine blk_put (cs := #[.int .i64 t202, .int .i64 t205, .slice none 0 0, .slice none 0 0]) ?_ 2 _ rfl; (with_reducible repeat (first | refine blk_drewN ?_ _ | refine blk_drew ?_ | refine blk_alloc ?_ _)); refine blk_put (cs := #[.int .i64 t202, .int .i64 0, .slice none 0 0, .slice none 0 0]) ?_ 1 _ rfl; (with_reducible repeat (first | refine blk_drewN ?_ _ | refine blk_drew ?_ | refine blk_alloc ?_ _)); refine blk_put (cs := #[.int .i64 0, .int .i64 0, .slice none 0 0, .slice none 0 0]) ?_ 0 _ rfl; (with_reducible repeat (first | refine blk_drewN ?_ _ | refine blk_drew ?_ | refine blk_alloc ?_ _)); exact BK201.out) Try.underlying25 rfl (by kernel_rfl)) rfl ?_
          exact ⟨_, _, by first | rfl | (simp [errW_none, errW_some] <;> rfl) | (simp [*, errW_none, errW_some] <;> rfl), by (with_reducible repeat (first | apply Kd.R_alloc | apply Kd.R_drewN | apply Kd.R_drew)); exact Kd.R_mono (Kd.R_far (p := ⟨gb201, 3, none⟩) (Kd.R_far (p := ⟨gb201, 2, none⟩) (Kd.R_far (p := ⟨gb201, 1, none⟩) (Kd.R_far (p := ⟨gb201, 0, none⟩) (Kd.R_types HO_209002.out BK201.out (by decide)) (fun _ hk => hk.2) (.int .i64 t202)) (fun _ hk => hk.2) (.int .i64 t205)) (fun _ hk => hk.2) (.slice Ao15 t210.length co15)) (fun _ hk => hk.2) (.slice Ao26 x209003_1.length co26)) (fun _ hk => trivial), by (with_reducible repeat (first | apply Kd.S_alloc | apply Kd.S_drewN | apply Kd.S_drew)); exact Kd.S_mono (Kd.S_far (p := ⟨gb201, 3, none⟩) (Kd.S_far (p := ⟨gb201, 2, none⟩) (Kd.S_far (p := ⟨gb201, 1, none⟩) (Kd.S_far (p := ⟨gb201, 0, none⟩) (Kd.S_types HO_209003.out BK201.out (by decide)) (fun _ hk => hk.2) (.int .i64 t202)) (fun _ hk => hk.2) (.int .i64 t205)) (fun _ hk => hk.2) (.slice Ao15 t210.length co15)) (fun _ hk => hk.2) (.slice Ao26 x209003_1.length co26)) (fun _ hk => hk.1), by repeat (first | (with_reducible first | exact HI0.out | apply IsS83.alloc | apply IsS83.drewN | apply IsS83.drew | apply IsS83.set_1 | apply IsS83.set_2 | refine IsS83.far ?_ NB0_201.out _ | apply IsS83.far (hne := NB0_201.out) | refine IsS83.far ?_ NB0_208.out _ | apply IsS83.far (hne := NB0_208.out)) | exact HI0.out), by repeat (first | (with_reducible first | exact HB.out | apply below_alloc | apply pw_below_drewN | apply below_drew1 | refine below_set ?_ (IsS83.ge HI0.out) | refine below_set ?_ GE201.out | refine below_set ?_ GE208.out) | exact HB.out), by repeat (first | (with_reducible first | exact HK.out | apply KeepBut.set_ | apply keep_drewN | apply keep_drew | apply keep_alloc | refine keep_far ?_ GW201.out _ | refine keep_far ?_ GW208.out _) | exact HK.out)⟩
        · replace c19 := Bool.eq_false_iff.mpr c19
          subst c19
          have H1 : ((words_reader_frame.f k1 s0_0 x1001_1 false).bind fun bt218 => (if x209003_1.length < 1466015503701 then (words_reader_cell.l0 k1 (wrap64 (x4_1 - 1)) s0_0 bt218.2.2.2.2.2.2.2.2.1 bt218.2.2.2.2.2.2.2.2.2 t202 t205 t210 (x209003_1 ++ [(⟨bt218.1, bt218.2.1, bt218.2.2.1, bt218.2.2.2.1, (⟨bt218.2.2.2.2.1, bt218.2.2.2.2.2.1⟩ : S27), bt218.2.2.2.2.2.2.1, bt218.2.2.2.2.2.2.2.1⟩ : S30)])) else (none))) = some (r1, r2, r3, r4, r5, r6) := by rw [if_neg (show ¬ (false = true) by decide)] at H; exact H
          clear H
          have H := H1
          clear H1
          replace H := Option.bind_eq_some_iff.mp H
          obtain ⟨⟨t218, t219, t220, t221, t222, t223, t224, t227, t230, t231⟩, A270, H⟩ := H
          replace H : (if x209003_1.length < 1466015503701 then (words_reader_cell.l0 k1 (wrap64 (x4_1 - 1)) s0_0 t230 t231 t202 t205 t210 (x209003_1 ++ [(⟨t218, t219, t220, t221, (⟨t222, t223⟩ : S27), t224, t227⟩ : S30)])) else (none)) = some (r1, r2, r3, r4, r5, r6) := H
          have A27 := Aside0.mk A270
          clear A270
          by_cases c28 : x209003_1.length < 1466015503701
          · rw [if_pos c28] at H
            have LMc28 := Aside0.mk c28
            clear c28
            obtain ⟨y232, hy232⟩ : ∃ y_ : List (S30), y_ = (x209003_1 ++ [(⟨t218, t219, t220, t221, (⟨t222, t223⟩ : S27), t224, t227⟩ : S30)]) := ⟨_, rfl⟩
            replace H : (words_reader_cell.l0 k1 (wrap64 (x4_1 - 1)) s0_0 t230 t231 t202 t205 t210 y232) = some (r1, r2, r3, r4, r5, r6) := by first | (rw [hy232]; with_reducible exact H) | (have H2_ := (Option.bind_some _ _).symm.trans H; rw [hy232]; with_reducible exact H2_) | (have H2_ := (Option.bind_some _ _).symm.trans H; with_reducible exact H2_) | with_reducible exact H | (rw [hy232]; exact H) | exact H
            have Ny232 := Aside0.mk hy232
            clear hy232
            have H' := Aside0.mk H
            clear H
            obtain ⟨ASz29_0, cSz29_0, HGz29, hgz29, HSz29_0⟩ := HI0.out
            have hcz29_0 := cellS83_0 HGz29
            have hcz29_1 := cellS83_1 HGz29
            have hcz29_2 := cellS83_2 HGz29
            have hfz29_1 := blk_frozen HGz29 1
            have hfz29_2 := blk_frozen HGz29 2
            clear HGz29 hgz29
            try go_wp2
            have n0_ := Aside0.mk (Kd.R_drew HO_209002.out)
            have n1_ := Aside0.mk (Kd.S_drew HO_209003.out)
            have n2_ := Aside0.mk (blk_drew BK201.out)
            have n3_ := Aside0.mk (blk_drew BK208.out)
            have n4_ := Aside0.mk (IsS83.drew HI0.out)
            have n5_ := Aside0.mk (keep_drew HK.out)
            have n6_ := Aside0.mk (below_drew1 HB.out)
            clear HO_209002
            clear HO_209003
            clear BK201
            clear BK208
            clear HI0
            clear HK
            clear HB
            have HO_209002 := n0_
            have HO_209003 := n1_
            have BK201 := n2_
            have BK208 := n3_
            have HI0 := n4_
            have HK := n5_
            have HB := n6_
            clear n0_ n1_ n2_ n3_ n4_ n5_ n6_
            refine start_ (n := 8) (S := fun w' => w'.cell? ⟨gb208, 0, none⟩ = some (.int .i64 t202) ∧ w'.cell? ⟨gb208, 1, none⟩ = some (.int .i64 t205) ∧ w'.cell? ⟨gb208, 2, none⟩ = some (.slice Ao15 t210.length co15) ∧ w'.cell? ⟨gb208, 3, none⟩ = some (u209003)) (ds := [7]) #[false, false, false, false, false, false, false, false] (by kernel_rfl) rfl rfl ⟨(blk_cell BK208.out 0).trans rfl, (blk_cell BK208.out 1).trans rfl, (blk_cell BK208.out 2).trans rfl, (blk_cell BK208.out 3).trans rfl⟩ (fun hHeld => ?_); refine with_tabW words_reader_cell.tab6 words_reader_cell.bits6 (fun HT_ HW_ => ?_)
            generalize wr.drew = w30 at HO_209002 HO_209003 BK201 BK208 HI0 HK HB hHeld ⊢
            refine pure_ (i := 0) (N := some 29) (v := ?_) (a' := ?_) #[true, false, false, false, false, false, false, false] rfl rfl (any_of HT_.out (by kernel_rfl)) (fun _ _ _ h => h) (Or.inl ⟨by rfl, ?_⟩) ?_ ?_
            rotate_left
            · intro w'
              go_simp
              with_reducible rfl
            rotate_left
            · simp only [Act.put, List.setIfInBounds_toArray, List.set_cons_zero, List.set_cons_succ, i64_w, i32_w]
              rfl
            refine pure_ (i := 2) (N := some 31) (v := ?_) (a' := ?_) #[true, false, true, false, false, false, false, false] rfl rfl (any_of HT_.out (by kernel_rfl)) (fun _ _ _ h => h) (Or.inl ⟨by rfl, ?_⟩) ?_ ?_
            rotate_left
            · intro w'
              go_simp
              with_reducible rfl
            rotate_left
            · simp only [Act.put, List.setIfInBounds_toArray, List.set_cons_zero, List.set_cons_succ, i64_w, i32_w]
              rfl
            refine take_ (i := 1) (N := some 30) (v := ?_) (a' := ?_) #[true, true, true, false, false, false, false, false] rfl rfl (take_ofW HT_.out HW_.out (by kernel_rfl)) (fun _ _ _ h => h) (Or.inl ⟨by rfl, ?_⟩) hHeld ?_ ?_
            rotate_left
            · rintro w' ⟨s0, s1, s2, s3⟩
              go_simp
              with_reducible rfl
            rotate_left
            · simp only [Act.put, List.setIfInBounds_toArray, List.set_cons_zero, List.set_cons_succ, i64_w, i32_w]
              rfl
            refine one_ (i := 3) (N := some 32) #[true, true, true, true, false, false, false, false] rfl rfl (one_of HT_.out (by kernel_rfl)) (by decide) (fun K hK => ?_)
            refine goes_ Try.func60 (by kernel_rfl) rfl #[.pointer (some ⟨g, 0, none⟩)] (by rfl) rfl rfl (by (try simp only [List.map_toArray, List.map_cons, List.map_nil]); first | done | rfl | (simp only [List.length_drop, List.length_take]; rfl)) ?_
            with_reducible refine (words_reader_frame.calls k1 g s0_0 x1001_1 false t218 t219 t220 t221 t222 t223 t224 t227 t230 t231 w0 _ ?side1 ?side2 A27.out).mono ?_
            (case side1 => repeat (first | (with_reducible first | exact HI0.out | apply IsS83.alloc | apply IsS83.drewN | apply IsS83.drew | apply IsS83.set_1 | apply IsS83.set_2 | refine IsS83.far ?_ NB0_201.out _ | apply IsS83.far (hne := NB0_201.out) | refine IsS83.far ?_ NB0_208.out _ | apply IsS83.far (hne := NB0_208.out)) | exact HI0.out))
            (case side2 => repeat (first | (with_reducible first | exact HB.out | apply below_alloc | apply pw_below_drewN | apply below_drew1 | refine below_set ?_ (IsS83.ge HI0.out) | refine below_set ?_ GE201.out | refine below_set ?_ GE208.out) | exact HB.out))
            rintro e w31 ⟨v225, v228, rfl, ho0, ho1, hi, hb, hk⟩
            refine ⟨_, rfl, ?_⟩
            have n0_ := Aside0.mk (Kd.R_mono (Kd.R_told (Kd.R_oldK (IsS83.apart (show IsS83 w0 _ g s0_0 x1001_1 false from by repeat (first | (with_reducible first | exact HI0.out | apply IsS83.alloc | apply IsS83.drewN | apply IsS83.drew | apply IsS83.set_1 | apply IsS83.set_2 | refine IsS83.far ?_ NB0_201.out _ | apply IsS83.far (hne := NB0_201.out) | refine IsS83.far ?_ NB0_208.out _ | apply IsS83.far (hne := NB0_208.out)) | exact HI0.out)) (by (with_reducible repeat (first | apply Kd.R_alloc | apply Kd.R_drewN | apply Kd.R_drew)); exact HO_209002.out) (by decide)) hk) (Kd.R_base ho0)) (fun _ h_ => h_.1))
            have n1_ := Aside0.mk (Kd.S_mono (Kd.S_told (Kd.S_told (Kd.S_oldK (IsS83.apartS (show IsS83 w0 _ g s0_0 x1001_1 false from by repeat (first | (with_reducible first | exact HI0.out | apply IsS83.alloc | apply IsS83.drewN | apply IsS83.drew | apply IsS83.set_1 | apply IsS83.set_2 | refine IsS83.far ?_ NB0_201.out _ | apply IsS83.far (hne := NB0_201.out) | refine IsS83.far ?_ NB0_208.out _ | apply IsS83.far (hne := NB0_208.out)) | exact HI0.out)) (by (with_reducible repeat (first | apply Kd.S_alloc | apply Kd.S_drewN | apply Kd.S_drew)); exact HO_209003.out) (by decide)) hk) (Kd.R_base ho0)) (Kd.R_base ho1)) (fun _ h_ => h_.1))
            have n2_ := Aside0.mk (KeepBut.blk hk (g' := gb201) (o := .cells #[.int .i64 0, .int .i64 0, .slice none 0 0, .slice none 0 0] 25 (0, 0)) (by (with_reducible repeat (first | refine blk_drewN ?_ _ | refine blk_drew ?_ | refine blk_alloc ?_ _)); exact BK201.out) NB201_0.out (by simp))
            have n3_ := Aside0.mk (KeepBut.blk hk (g' := gb208) (o := .cells #[.int .i64 t202, .int .i64 t205, .slice Ao15 t210.length co15, u209003] 25 (0, 0)) (by (with_reducible repeat (first | refine blk_drewN ?_ _ | refine blk_drew ?_ | refine blk_alloc ?_ _)); exact BK208.out) NB208_0.out (by simp))
            have n4_ := Aside0.mk (Kd.R_lower (Kd.R_new' ho0 (Kd.R_lt (by (with_reducible repeat (first | apply Kd.R_alloc | apply Kd.R_drewN | apply Kd.R_drew)); exact HO_209002.out))) (keep_size (w := w) (g := g) (row := none) (by repeat (first | (with_reducible first | exact HK.out | apply KeepBut.set_ | apply keep_drewN | apply keep_drew | apply keep_alloc | refine keep_far ?_ GW201.out _ | refine keep_far ?_ GW208.out _) | exact HK.out))))
            have n5_ := Aside0.mk (Kd.R_lower ho1 (keep_size (w := w) (g := g) (row := none) (by repeat (first | (with_reducible first | exact HK.out | apply KeepBut.set_ | apply keep_drewN | apply keep_drew | apply keep_alloc | refine keep_far ?_ GW201.out _ | refine keep_far ?_ GW208.out _) | exact HK.out))))
            have n6_ := Aside0.mk (KeepBut.trans (by repeat (first | (with_reducible first | exact HK.out | apply KeepBut.set_ | apply keep_drewN | apply keep_drew | apply keep_alloc | refine keep_far ?_ GW201.out _ | refine keep_far ?_ GW208.out _) | exact HK.out)) hk (.inl rfl))
            have n7_ := Aside0.mk (hb)
            have n8_ := Aside0.mk (hi)
            clear HO_209002
            clear HO_209003
            clear BK201
            clear BK208
            clear HK
            clear HB
            clear HI0
            have HO_209002 := n0_
            have HO_209003 := n1_
            have BK201 := n2_
            have BK208 := n3_
            have HO226 := n4_
            have HO229 := n5_
            have HK := n6_
            have HB := n7_
            have HI0 := n8_
            clear n0_ n1_ n2_ n3_ n4_ n5_ n6_ n7_ n8_
            (try clear hb)
            (try clear hb2)
            (try clear hk)
            (try clear hi)
            (try clear ho0)
            (try clear ho1)
            obtain ⟨Ao33, co33, eo33⟩ := Kd.R_slice HO226.out
            (first | subst eo33 | (injection eo33 with f1_ f2_ f3_; have f4_ := f1_.symm; have f5_ := f3_.symm; clear f1_ f2_ f3_; subst f4_; subst f5_))
            obtain ⟨Ao34, co34, eo34⟩ := Kd.R_slice HO229.out
            (first | subst eo34 | (injection eo34 with f1_ f2_ f3_; have f4_ := f1_.symm; have f5_ := f3_.symm; clear f1_ f2_ f3_; subst f4_; subst f5_))
            refine hK.out _ _ ⟨(blk_cell BK208.out 0).trans rfl, (blk_cell BK208.out 1).trans rfl, (blk_cell BK208.out 2).trans rfl, (blk_cell BK208.out 3).trans rfl⟩ (fun hHeld => ?_)
            clear hK K
            refine norm_ (a' := ?_) ?_ ?_
            rotate_left
            · show Act.put _ (some 32) _ = _
              simp only [Act.put, List.setIfInBounds_toArray, List.set_cons_zero, List.set_cons_succ, i64_w, i32_w]
              rfl
            refine one_ (i := 4) (N := some 33) #[true, true, true, true, true, false, false, false] rfl rfl (one_of HT_.out (by kernel_rfl)) (by decide) (fun K hK => ?_)
            refine value_ (w1 := ?_) (v := ?_) (by rfl) rfl ?_ ?_
            rotate_left 2
            · go_simp
              constructor
              · rfl
              · rfl
            refine hK.out _ _ ⟨(blk_cell (blk_alloc BK208.out _) 0).trans rfl, (blk_cell (blk_alloc BK208.out _) 1).trans rfl, (blk_cell (blk_alloc BK208.out _) 2).trans rfl, (blk_cell (blk_alloc BK208.out _) 3).trans rfl⟩ (fun hHeld => ?_)
            clear hK K
            refine norm_ (a' := ?_) ?_ ?_
            rotate_left
            · show Act.put _ (some 33) _ = _
              simp only [Act.put, List.setIfInBounds_toArray, List.set_cons_zero, List.set_cons_succ, i64_w, i32_w]
              rfl
            refine one_ (i := 5) (N := some 34) #[true, true, true, true, true, true, false, false] rfl rfl (one_of HT_.out (by kernel_rfl)) (by decide) (fun K hK => ?_)
            refine Kd.S_append_step k30 w.heap.size (by rfl) (.tmp 30) (.tmp 33) 23 30 (.agg #[(.int .i64 0), (.int .i64 0), (.int .i64 0), (.int .i64 0), (.int .i64 0), (.int .i64 0), (.slice none 0 0), (.slice none 0 0)]) 96 rfl Try.underlying23 info30 rfl (by decide) (by omega) u209003 x209003_1 (⟨t218, t219, t220, t221, (⟨t222, t223⟩ : S27), t224, t227⟩ : S30) [.int .i64 t218, .int .i64 t219, .int .i64 t220, .int .i64 t221, .int .i64 t222, .int .i64 t223, .slice Ao33 t224.length co33, .slice Ao34 t227.length co34] (fun k_ => some k_ ≠ (.slice Ao15 t210.length co15 : Value).ownBlock) (fun k_ => some k_ = (.slice Ao33 t224.length co33 : Value).ownBlock ∨ some k_ = (.slice Ao34 t227.length co34 : Value).ownBlock) rfl rfl ?aP (fun k_ hk_ => hk_.elim (fun h_ => ((Kd.R_mono (ok' := fun k_ => ((fun k_ => some k_ ≠ (.slice Ao15 t210.length co15 : Value).ownBlock)) k_ ∧ some k_ ≠ (u209003 : Value).ownBlock) (Kd.R_apart' (HO226.out) (Kd.S_typed HO_209003.out) (by decide)) (fun k_ hk => ⟨hk.1.2, hk.2⟩))).1 k_ h_.symm) (fun h_ => ((Kd.R_mono (ok' := fun k_ => ((fun k_ => some k_ ≠ (.slice Ao15 t210.length co15 : Value).ownBlock)) k_ ∧ some k_ ≠ (u209003 : Value).ownBlock) (Kd.R_apart' (Kd.R_apart' (HO229.out) (Kd.R_typed HO_209002.out) (by decide)) (Kd.S_typed HO_209003.out) (by decide)) (fun k_ hk => ⟨hk.1.2, hk.2⟩))).1 k_ h_.symm)) ?aF ?aO (Below.refl _ _) ?aS ?aL ?_
            (case aP => exact k30_mkM _ _ _ (⟨t218, t219, t220, t221, (⟨t222, t223⟩ : S27), t224, t227⟩ : S30) (Kd.R_mono (Kd.R_tight rfl (Kd.R_mono (ok' := fun k_ => ((fun k_ => some k_ ≠ (.slice Ao15 t210.length co15 : Value).ownBlock)) k_ ∧ some k_ ≠ (u209003 : Value).ownBlock) (Kd.R_apart' (HO226.out) (Kd.S_typed HO_209003.out) (by decide)) (fun k_ hk => ⟨hk.1.2, hk.2⟩))) (fun _ h_ => Or.inl h_)) (Kd.R_mono (Kd.R_tight rfl (Kd.R_mono (ok' := fun k_ => ((fun k_ => some k_ ≠ (.slice Ao15 t210.length co15 : Value).ownBlock)) k_ ∧ some k_ ≠ (u209003 : Value).ownBlock) (Kd.R_apart' (Kd.R_apart' (HO229.out) (Kd.R_typed HO_209002.out) (by decide)) (Kd.S_typed HO_209003.out) (by decide)) (fun k_ hk => ⟨hk.1.2, hk.2⟩))) (fun _ h_ => Or.inr (h_))))
            (case aF => exact (fun k_ hk => Kd.fresh' (Kd.R_lt (by (with_reducible repeat (first | apply Kd.R_alloc | apply Kd.R_drewN | apply Kd.R_drew)); exact HO_209002.out)) k_ hk))
            (case aO => exact (by (with_reducible repeat (first | apply Kd.S_alloc | apply Kd.S_drewN | apply Kd.S_drew)); exact Kd.S_mono HO_209003.out (fun k_ hk => ⟨hk.1.1, fun e_ => e_.elim (fun h_ => hk.1.2 h_) (fun h_ => hk.2 h_)⟩)))
            (case aS => exact (keep_size (w := w) (g := g) (row := none) (by repeat (first | (with_reducible first | exact HK.out | apply KeepBut.set_ | apply keep_drewN | apply keep_drew | apply keep_alloc | refine keep_far ?_ GW201.out _ | refine keep_far ?_ GW208.out _) | exact HK.out))))
            (case aL => have := LMc28.out; omega)
            intro v233 w32 ho hb hg hat
            rw [← Ny232.out] at ho
            have n0_ := Aside0.mk (Kd.R_over' (by (with_reducible repeat (first | apply Kd.R_alloc | apply Kd.R_drewN | apply Kd.R_drew)); exact HO_209002.out) (Kd.S_typed (by (with_reducible repeat (first | apply Kd.S_alloc | apply Kd.S_drewN | apply Kd.S_drew)); exact HO_209003.out)) (by decide) hg)
            have n1_ := Aside0.mk (blk_grown (g := gb201) (o := .cells #[.int .i64 0, .int .i64 0, .slice none 0 0, .slice none 0 0] 25 (0, 0)) (by (with_reducible repeat (first | refine blk_drewN ?_ _ | refine blk_drew ?_ | refine blk_alloc ?_ _)); exact BK201.out) hg (Kd.S_ne HO_209003.out BK201.out (by decide)))
            have n2_ := Aside0.mk (blk_grown (g := gb208) (o := .cells #[.int .i64 t202, .int .i64 t205, .slice Ao15 t210.length co15, u209003] 25 (0, 0)) (by (with_reducible repeat (first | refine blk_drewN ?_ _ | refine blk_drew ?_ | refine blk_alloc ?_ _)); exact BK208.out) hg (Kd.S_ne HO_209003.out BK208.out (by decide)))
            have n3_ := Aside0.mk (IsS83.grown (by repeat (first | (with_reducible first | exact HI0.out | apply IsS83.alloc | apply IsS83.drewN | apply IsS83.drew | apply IsS83.set_1 | apply IsS83.set_2 | refine IsS83.far ?_ NB0_201.out _ | apply IsS83.far (hne := NB0_201.out) | refine IsS83.far ?_ NB0_208.out _ | apply IsS83.far (hne := NB0_208.out)) | exact HI0.out)) hg (IsS83.own_neS HI0.out HO_209003.out (by decide)))
            have n4_ := Aside0.mk (below_weaken (by repeat (first | (with_reducible first | exact HB.out | apply below_alloc | apply pw_below_drewN | apply below_drew1 | refine below_set ?_ (IsS83.ge HI0.out) | refine below_set ?_ GE201.out | refine below_set ?_ GE208.out) | exact HB.out)) HL.out hb)
            have n5_ := Aside0.mk (KeepBut.trans (by repeat (first | (with_reducible first | exact HK.out | apply KeepBut.set_ | apply keep_drewN | apply keep_drew | apply keep_alloc | refine keep_far ?_ GW201.out _ | refine keep_far ?_ GW208.out _) | exact HK.out)) (KeepBut.of_grown hg g) (Kd.S_base2 HO_209003.out))
            have n6_ := Aside0.mk (ho)
            clear HO_209002
            clear BK201
            clear BK208
            clear HI0
            clear HB
            clear HK
            clear HO_209003
            clear HO226
            clear HO229
            have HO_209002 := n0_
            have BK201 := n1_
            have BK208 := n2_
            have HI0 := n3_
            have HB := n4_
            have HK := n5_
            have HO234 := n6_
            clear n0_ n1_ n2_ n3_ n4_ n5_ n6_
            clear ho hb hg hat
            obtain ⟨Ao35, co35, eo35⟩ := Kd.S_slice HO234.out
            (first | subst eo35 | (injection eo35 with f1_ f2_ f3_; have f4_ := f1_.symm; have f5_ := f3_.symm; clear f1_ f2_ f3_; subst f4_; subst f5_))
            refine hK.out _ _ ⟨(blk_cell BK208.out 0).trans rfl, (blk_cell BK208.out 1).trans rfl, (blk_cell BK208.out 2).trans rfl, (blk_cell BK208.out 3).trans rfl⟩ (fun hHeld => ?_)
            clear hK K
            refine norm_ (a' := ?_) ?_ ?_
            rotate_left
            · show Act.put _ (some 34) _ = _
              simp only [Act.put, List.setIfInBounds_toArray, List.set_cons_zero, List.set_cons_succ, i64_w, i32_w]
              rfl
            refine pure_ (i := 6) (N := some 35) (v := ?_) (a' := ?_) #[true, true, true, true, true, true, true, false] rfl rfl (any_of HT_.out (by kernel_rfl)) (fun _ _ _ h => h) (Or.inl ⟨by rfl, ?_⟩) ?_ ?_
            rotate_left
            · intro w'
              go_simp
              with_reducible rfl
            rotate_left
            · simp only [Act.put, List.setIfInBounds_toArray, List.set_cons_zero, List.set_cons_succ, i64_w, i32_w]
              rfl
            refine last_ (i := 7) (N := none) #[true, true, true, true, true, true, true, true] rfl rfl (one_of HT_.out (by kernel_rfl)) (by decide) (fun K hK => ?_)
            have hs36 : w32.cell? ⟨gb208, 3, none⟩ = some (u209003) := (blk_cell BK208.out 3).trans rfl
            have hfs36 := blk_frozen BK208.out 3
            have hns36_0 := NB201_208.out
            have hms36_0 := NB208_201.out
            refine skip_ (w1 := ?_) (by rfl) rfl ?_ ?_
            rotate_left
            · go_simp
              rfl
            refine hK.out _ _ ?_
            clear hK K
            refine done_ (done_of HT_.out (by kernel_rfl)) ?_
            try go_wp2
            go_roundg k1
            case measure => have := HK1.out; omega
            case rel => exact ⟨(wrap64 (x4_1 - 1)), (t230), (t231), (y232), (.slice Ao35 y232.length co35), (by first | rfl | (simp; done) | (simp [*]; done)), H', ⟨by have := HK1.out; omega⟩, ⟨by (with_reducible repeat (first | apply Kd.R_alloc | apply Kd.R_drewN | apply Kd.R_drew)); exact Kd.R_mono (Kd.R_far (p := ⟨gb208, 3, none⟩) (Kd.R_types HO_209002.out BK208.out (by decide)) (fun _ hk => hk.2) (.slice Ao35 y232.length co35)) (fun _ hk => trivial)⟩, ⟨by (with_reducible repeat (first | apply Kd.S_alloc | apply Kd.S_drewN | apply Kd.S_drew)); exact Kd.S_mono (Kd.S_far (p := ⟨gb208, 3, none⟩) (Kd.S_types HO234.out BK208.out (by decide)) (fun _ hk => hk.2) (.slice Ao35 y232.length co35)) (fun _ hk => hk.1)⟩, ⟨by (with_reducible repeat (first | refine blk_drewN ?_ _ | refine blk_drew ?_ | refine blk_alloc ?_ _)); refine blk_far ?_ NB201_208.out _; (with_reducible repeat (first | refine blk_drewN ?_ _ | refine blk_drew ?_ | refine blk_alloc ?_ _)); exact BK201.out⟩, ⟨by (with_reducible repeat (first | refine blk_drewN ?_ _ | refine blk_drew ?_ | refine blk_alloc ?_ _)); refine blk_put (cs := #[.int .i64 t202, .int .i64 t205, .slice Ao15 t210.length co15, u209003]) ?_ 3 _ rfl; (with_reducible repeat (first | refine blk_drewN ?_ _ | refine blk_drew ?_ | refine blk_alloc ?_ _)); exact BK208.out⟩, ⟨by repeat (first | (with_reducible first | exact HI0.out | apply IsS83.alloc | apply IsS83.drewN | apply IsS83.drew | apply IsS83.set_1 | apply IsS83.set_2 | refine IsS83.far ?_ NB0_201.out _ | apply IsS83.far (hne := NB0_201.out) | refine IsS83.far ?_ NB0_208.out _ | apply IsS83.far (hne := NB0_208.out)) | exact HI0.out)⟩, ⟨by repeat (first | (with_reducible first | exact HK.out | apply KeepBut.set_ | apply keep_drewN | apply keep_drew | apply keep_alloc | refine keep_far ?_ GW201.out _ | refine keep_far ?_ GW208.out _) | exact HK.out)⟩, ⟨by repeat (first | (with_reducible first | exact HB.out | apply below_alloc | apply pw_below_drewN | apply below_drew1 | refine below_set ?_ (IsS83.ge HI0.out) | refine below_set ?_ GE201.out | refine below_set ?_ GE208.out) | exact HB.out)⟩⟩
          · rw [if_neg c28] at H
            exact absurd H (by simp)
      · rw [if_neg c18] at H
        have c18b0 : decide (0 < x4_1) = false := decide_eq_false c18
        clear c18
        simp only [Option.some.injEq, Prod.mk.injEq] at H
        obtain ⟨rfl, rfl, rfl, rfl, rfl, rfl⟩ := H
        have hnb37 := NB208_201.out
        have hnc37 := NB201_208.out
        have hnb38 := NB208_0.out
        have hnc38 := NB0_208.out
        have hcz39_0 : wr.cell? ⟨gb208, 0, none⟩ = some (.int .i64 t202) := (blk_cell BK208.out 0).trans rfl
        have hcz39_1 : wr.cell? ⟨gb208, 1, none⟩ = some (.int .i64 t205) := (blk_cell BK208.out 1).trans rfl
        have hcz39_2 : wr.cell? ⟨gb208, 2, none⟩ = some (.slice Ao15 t210.length co15) := (blk_cell BK208.out 2).trans rfl
        have hcz39_3 : wr.cell? ⟨gb208, 3, none⟩ = some (u209003) := (blk_cell BK208.out 3).trans rfl
        have hfz39_0 := blk_frozen BK208.out 0
        have hfz39_1 := blk_frozen BK208.out 1
        have hfz39_2 := blk_frozen BK208.out 2
        have hfz39_3 := blk_frozen BK208.out 3
        have hnb40 := NB201_0.out
        have hnc40 := NB0_201.out
        have hcz41_0 : wr.cell? ⟨gb201, 0, none⟩ = some (.int .i64 0) := (blk_cell BK201.out 0).trans rfl
        have hcz41_1 : wr.cell? ⟨gb201, 1, none⟩ = some (.int .i64 0) := (blk_cell BK201.out 1).trans rfl
        have hcz41_2 : wr.cell? ⟨gb201, 2, none⟩ = some (.slice none 0 0) := (blk_cell BK201.out 2).trans rfl
        have hcz41_3 : wr.cell? ⟨gb201, 3, none⟩ = some (.slice none 0 0) := (blk_cell BK201.out 3).trans rfl
        have hfz41_0 := blk_frozen BK201.out 0
        have hfz41_1 := blk_frozen BK201.out 1
        have hfz41_2 := blk_frozen BK201.out 2
        have hfz41_3 := blk_frozen BK201.out 3
        obtain ⟨Ao42, co42, eo42⟩ := Kd.S_slice HO_209003.out
        subst eo42
        go_wp2
        refine bodyPost_ret (results_cell_row rfl _ _ gb201 25 #[.int .i64 t202, .int .i64 t205, .slice Ao15 t210.length co15, .slice Ao42 x209003_1.length co42] (0, 0) _ rfl (by (with_reducible repeat (first | refine blk_drewN ?_ _ | refine blk_drew ?_ | refine blk_alloc ?_ _)); refine blk_put (cs := #[.int .i64 t202, .int .i64 t205, .slice Ao15 t210.length co15, .slice none 0 0]) ?_ 3 _ rfl; (with_reducible repeat (first | refine blk_drewN ?_ _ | refine blk_drew ?_ | refine blk_alloc ?_ _)); refine blk_put (cs := #[.int .i64 t202, .int .i64 t205, .slice none 0 0, .slice none 0 0]) ?_ 2 _ rfl; (with_reducible repeat (first | refine blk_drewN ?_ _ | refine blk_drew ?_ | refine blk_alloc ?_ _)); refine blk_put (cs := #[.int .i64 t202, .int .i64 0, .slice none 0 0, .slice none 0 0]) ?_ 1 _ rfl; (with_reducible repeat (first | refine blk_drewN ?_ _ | refine blk_drew ?_ | refine blk_alloc ?_ _)); refine blk_put (cs := #[.int .i64 0, .int .i64 0, .slice none 0 0, .slice none 0 0]) ?_ 0 _ rfl; (with_reducible repeat (first | refine blk_drewN ?_ _ | refine blk_drew ?_ | refine blk_alloc ?_ _)); exact BK201.out) Try.underlying25 rfl (by kernel_rfl)) rfl ?_
        exact ⟨_, _, by first | rfl | (simp [errW_none, errW_some] <;> rfl) | (simp [*, errW_none, errW_some] <;> rfl), by (with_reducible repeat (first | apply Kd.R_alloc | apply Kd.R_drewN | apply Kd.R_drew)); exact Kd.R_mono (Kd.R_far (p := ⟨gb201, 3, none⟩) (Kd.R_far (p := ⟨gb201, 2, none⟩) (Kd.R_far (p := ⟨gb201, 1, none⟩) (Kd.R_far (p := ⟨gb201, 0, none⟩) (Kd.R_types HO_209002.out BK201.out (by decide)) (fun _ hk => hk.2) (.int .i64 t202)) (fun _ hk => hk.2) (.int .i64 t205)) (fun _ hk => hk.2) (.slice Ao15 t210.length co15)) (fun _ hk => hk.2) (.slice Ao42 x209003_1.length co42)) (fun _ hk => trivial), by (with_reducible repeat (first | apply Kd.S_alloc | apply Kd.S_drewN | apply Kd.S_drew)); exact Kd.S_mono (Kd.S_far (p := ⟨gb201, 3, none⟩) (Kd.S_far (p := ⟨gb201, 2, none⟩) (Kd.S_far (p := ⟨gb201, 1, none⟩) (Kd.S_far (p := ⟨gb201, 0, none⟩) (Kd.S_types HO_209003.out BK201.out (by decide)) (fun _ hk => hk.2) (.int .i64 t202)) (fun _ hk => hk.2) (.int .i64 t205)) (fun _ hk => hk.2) (.slice Ao15 t210.length co15)) (fun _ hk => hk.2) (.slice Ao42 x209003_1.length co42)) (fun _ hk => hk.1), by repeat (first | (with_reducible first | exact HI0.out | apply IsS83.alloc | apply IsS83.drewN | apply IsS83.drew | apply IsS83.set_1 | apply IsS83.set_2 | refine IsS83.far ?_ NB0_201.out _ | apply IsS83.far (hne := NB0_201.out) | refine IsS83.far ?_ NB0_208.out _ | apply IsS83.far (hne := NB0_208.out)) | exact HI0.out), by repeat (first | (with_reducible first | exact HB.out | apply below_alloc | apply pw_below_drewN | apply below_drew1 | refine below_set ?_ (IsS83.ge HI0.out) | refine below_set ?_ GE201.out | refine below_set ?_ GE208.out) | exact HB.out), by repeat (first | (with_reducible first | exact HK.out | apply KeepBut.set_ | apply keep_drewN | apply keep_drew | apply keep_alloc | refine keep_far ?_ GW201.out _ | refine keep_far ?_ GW208.out _) | exact HK.out)⟩

end Go.Proofs.Ytkefekdphkclmaa.PC
