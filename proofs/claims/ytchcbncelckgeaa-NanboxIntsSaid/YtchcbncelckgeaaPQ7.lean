-- Printed for this session by its own wip/tools/pr.sh, which calls the kit's printer. Not trusted: Lean checks it.
import Derived.Test.YtchcbncelckgeaaPQ0
import Derived.Test.YtchcbncelckgeaaPQ2
namespace Go.Proofs.Ytchcbncelckgeaa.PQ
open Go.RowKit Go.Proofs.YtchcbncelckgeaaW.PrintWords Go.Proofs.YtchcbncelckgeaaW.PrintLast Go.Proofs.YtchcbncelckgeaaW.PrintMore
attribute [local go_sem] max2_int min2_int max_two min_two max_three min_three max_four min_four   -- for this text's walks alone
set_option linter.unusedVariables false
set_option linter.unusedSimpArgs false

/-! ### backstitchkeep3_NanboxInts_1: function 28 -/
def backstitchkeep3_NanboxInts_1.f (a0 : Int) : Option (Bool) := if a0 ≥ (-2147483648) then (some (decide (a0 ≤ 2147483647))) else (some false)
set_option maxHeartbeats 8000000 in
set_option maxRecDepth 100000 in
theorem backstitchkeep3_NanboxInts_1.calls (a0 : Int) (r : Bool) (w : World) (h : backstitchkeep3_NanboxInts_1.f a0 = some r) :
    Calls Try.prog 28 #[.int .i64 a0] w fun e w' => e = .returned (.bool r) ∧ Drawn0 w w' := by
  have H : (if a0 ≥ (-2147483648) then (some (decide (a0 ≤ 2147483647))) else (some false)) = some r := h
  clear h
  by_cases c2 : a0 ≥ (-2147483648)
  · rw [if_pos c2] at H
    have c2b0 : decide ((-2147483648) ≤ a0) = true := decide_eq_true c2
    clear c2
    obtain rfl := Option.some.inj H
    go_enter Try.func28, Try.ntmps28
    go_wp2
    go_ret
    exact ⟨by first | rfl | (simp; done) | (simp [*]; done), by repeat (first | exact Drawn0.refl _ | apply Drawn0.step)⟩
  · rw [if_neg c2] at H
    have c2b0 : decide ((-2147483648) ≤ a0) = false := decide_eq_false c2
    clear c2
    obtain rfl := Option.some.inj H
    go_enter Try.func28, Try.ntmps28
    go_wp2
    go_ret
    exact ⟨by first | rfl | (simp; done) | (simp [*]; done), by repeat (first | exact Drawn0.refl _ | apply Drawn0.step)⟩

/-- THE ONE PURE STATEMENT of backstitchkeep3_NanboxInts_1: yours. -/
def backstitchkeep3_NanboxInts_1.Pure : Prop := ∀ (a0 : Int), (Lit.int .i64 a0).wf = true → backstitchkeep3_NanboxInts_1.f a0 = some true
theorem backstitchkeep3_NanboxInts_1.walk (P : backstitchkeep3_NanboxInts_1.Pure) (a0 : Int) (w : World) (w0 : (Lit.int .i64 a0).wf = true) :
    Calls Try.prog 28 #[.int .i64 a0] w fun e w' => e = .returned (.bool true) ∧ Below w.heap.size w w' := by
  have h := P a0 w0
  refine (backstitchkeep3_NanboxInts_1.calls a0 true w h).mono ?_
  rintro e w' ⟨rfl, hd⟩
  exact ⟨rfl, hd.below⟩

/-! ### backstitchkeep3_NanboxInts: function 7 -/
def backstitchkeep3_NanboxInts.j0 : Nat → Int → Int → Int → Int → Bool → Option (Bool)
  | 0, _, _, _, _, _ => none
  | k + 1, x0, x1, x5, x7, x37 => if x37 = true then (some false) else ((backstitchkeep3_boxed.f k).bind fun t169 => (if t169 = true then ((backstitchkeep3_NanboxInts_1.f x0).bind fun t170 => (if t170 = true then ((backstitchkeep3_NanboxInts_1.f x1).bind fun t171 => (if t171 = true then (if ((decide (x0 < 0)) != (decide (x1 < 0))) = true then (some true) else (some ((decide (x0 < x1)) == (decide (x5 < x7))))) else (some true))) else (some true))) else (some false)))
def backstitchkeep3_NanboxInts.f (k : Nat) (a0 : Int) (a1 : Int) : Option (Bool) := (backstitchkeep3_boxed.f k).bind fun t162 => (if t162 = true then ((nanbox_Box.f k 2 a0).bind fun bt163 => ((nanbox_Box.f k 2 a1).bind fun bt165 => ((backstitchkeep3_NanboxInts_1.f a0).bind fun t167 => (if ((bt163.2 == 0) != t167) = true then (backstitchkeep3_NanboxInts.j0 k a0 a1 bt163.1 bt165.1 true) else ((backstitchkeep3_NanboxInts_1.f a1).bind fun t168 => (backstitchkeep3_NanboxInts.j0 k a0 a1 bt163.1 bt165.1 ((bt165.2 == 0) != t168))))))) else (some false))
theorem backstitchkeep3_NanboxInts.mono_l : ∀ k, (∀ y0 y1 y2 y3 y4, LeO (backstitchkeep3_NanboxInts.j0 k y0 y1 y2 y3 y4) (backstitchkeep3_NanboxInts.j0 (k + 1) y0 y1 y2 y3 y4))
  | 0 => fun _ _ _ _ _ r h => by simp [backstitchkeep3_NanboxInts.j0] at h
  | k + 1 => by
    have ih0 := backstitchkeep3_NanboxInts.mono_l k
    · intro y0 y1 y2 y3 y4
      unfold backstitchkeep3_NanboxInts.j0
      repeat' first
      | (with_reducible exact ih0 _ _ _ _ _)
      | (with_reducible exact backstitchkeep3_boxed.mono _)
      | (with_reducible exact nanbox_Box.mono _ _ _)
      | (with_reducible exact LeO.refl _)
      | (with_reducible exact LeO.none _)
      | (with_reducible refine LeO.ite ?_ ?_)
      | (with_reducible refine LeO.bind ?_ (fun _ => ?_))
      | exact ih0 _ _ _ _ _
      | exact backstitchkeep3_boxed.mono _
      | exact nanbox_Box.mono _ _ _
      | exact LeO.none _
      | refine LeO.ite ?_ ?_
      | refine LeO.bind ?_ (fun _ => ?_)
theorem backstitchkeep3_NanboxInts.mono : ∀ a0 a1 k, LeO (backstitchkeep3_NanboxInts.f k a0 a1) (backstitchkeep3_NanboxInts.f (k + 1) a0 a1) := by
  intro a0 a1 k
  have ih0 := backstitchkeep3_NanboxInts.mono_l k
  unfold backstitchkeep3_NanboxInts.f
  repeat' first
      | (with_reducible exact ih0 _ _ _ _ _)
      | (with_reducible exact backstitchkeep3_boxed.mono _)
      | (with_reducible exact nanbox_Box.mono _ _ _)
      | (with_reducible exact LeO.refl _)
      | (with_reducible exact LeO.none _)
      | (with_reducible refine LeO.ite ?_ ?_)
      | (with_reducible refine LeO.bind ?_ (fun _ => ?_))
      | exact ih0 _ _ _ _ _
      | exact backstitchkeep3_boxed.mono _
      | exact nanbox_Box.mono _ _ _
      | exact LeO.none _
      | refine LeO.ite ?_ ?_
      | refine LeO.bind ?_ (fun _ => ?_)
set_option maxHeartbeats 8000000 in
set_option maxRecDepth 100000 in
theorem backstitchkeep3_NanboxInts.calls (k : Nat) (a0 : Int) (a1 : Int) (r : Bool) (w : World) (h : backstitchkeep3_NanboxInts.f k a0 a1 = some r) :
    Calls Try.prog 7 #[.int .i64 a0, .int .i64 a1] w fun e w' => e = .returned (.bool r) ∧ Below w.heap.size w w' := by
  have hu23 := Try.underlying23
  have HB := Aside0.mk (Below.refl w.heap.size w)
  have H : ((backstitchkeep3_boxed.f k).bind fun t162 => (if t162 = true then ((nanbox_Box.f k 2 a0).bind fun bt163 => ((nanbox_Box.f k 2 a1).bind fun bt165 => ((backstitchkeep3_NanboxInts_1.f a0).bind fun t167 => (if ((bt163.2 == 0) != t167) = true then (backstitchkeep3_NanboxInts.j0 k a0 a1 bt163.1 bt165.1 true) else ((backstitchkeep3_NanboxInts_1.f a1).bind fun t168 => (backstitchkeep3_NanboxInts.j0 k a0 a1 bt163.1 bt165.1 ((bt165.2 == 0) != t168))))))) else (some false))) = some r := h
  clear h
  replace H := Option.bind_eq_some_iff.mp H
  obtain ⟨t162, A30, H⟩ := H
  replace H : (if t162 = true then ((nanbox_Box.f k 2 a0).bind fun bt163 => ((nanbox_Box.f k 2 a1).bind fun bt165 => ((backstitchkeep3_NanboxInts_1.f a0).bind fun t167 => (if ((bt163.2 == 0) != t167) = true then (backstitchkeep3_NanboxInts.j0 k a0 a1 bt163.1 bt165.1 true) else ((backstitchkeep3_NanboxInts_1.f a1).bind fun t168 => (backstitchkeep3_NanboxInts.j0 k a0 a1 bt163.1 bt165.1 ((bt165.2 == 0) != t168))))))) else (some false)) = some r := H
  have A3 := Aside0.mk A30
  clear A30
  by_cases c4 : t162 = true
  · subst c4
    have H1 : ((nanbox_Box.f k 2 a0).bind fun bt163 => ((nanbox_Box.f k 2 a1).bind fun bt165 => ((backstitchkeep3_NanboxInts_1.f a0).bind fun t167 => (if ((bt163.2 == 0) != t167) = true then (backstitchkeep3_NanboxInts.j0 k a0 a1 bt163.1 bt165.1 true) else ((backstitchkeep3_NanboxInts_1.f a1).bind fun t168 => (backstitchkeep3_NanboxInts.j0 k a0 a1 bt163.1 bt165.1 ((bt165.2 == 0) != t168))))))) = some r := by rw [if_pos rfl] at H; exact H
    clear H
    have H := H1
    clear H1
    replace H := Option.bind_eq_some_iff.mp H
    obtain ⟨⟨t163, t164⟩, A50, H⟩ := H
    replace H : ((nanbox_Box.f k 2 a1).bind fun bt165 => ((backstitchkeep3_NanboxInts_1.f a0).bind fun t167 => (if ((t164 == 0) != t167) = true then (backstitchkeep3_NanboxInts.j0 k a0 a1 t163 bt165.1 true) else ((backstitchkeep3_NanboxInts_1.f a1).bind fun t168 => (backstitchkeep3_NanboxInts.j0 k a0 a1 t163 bt165.1 ((bt165.2 == 0) != t168)))))) = some r := H
    have A5 := Aside0.mk A50
    clear A50
    replace H := Option.bind_eq_some_iff.mp H
    obtain ⟨⟨t165, t166⟩, A60, H⟩ := H
    replace H : ((backstitchkeep3_NanboxInts_1.f a0).bind fun t167 => (if ((t164 == 0) != t167) = true then (backstitchkeep3_NanboxInts.j0 k a0 a1 t163 t165 true) else ((backstitchkeep3_NanboxInts_1.f a1).bind fun t168 => (backstitchkeep3_NanboxInts.j0 k a0 a1 t163 t165 ((t166 == 0) != t168))))) = some r := H
    have A6 := Aside0.mk A60
    clear A60
    have HC7 := Aside0.mk H
    clear H
    go_enter Try.func7, Try.ntmps7
    go_upto_region 6 with (first | ((with_reducible refine gate_callee (f := 26) rfl ?_); refine goesL_ (some 10) rfl rfl Try.func26 (by kernel_rfl) rfl #[] rfl (by (try simp only [List.map_toArray, List.map_cons, List.map_nil]); first | done | rfl | (simp only [List.length_drop, List.length_take]; rfl)) ?_; (with_reducible refine (backstitchkeep3_boxed.calls k  true _ A3.out).mono ?_); rintro e w8 ⟨rfl, hb⟩; refine ⟨_, rfl, ?_⟩; have n0_ := Aside0.mk (below_step (by repeat (first | (with_reducible first | exact HB.out | apply below_alloc | apply pw_below_drewN | apply below_drew1) | exact HB.out)) hb); clear HB; have HB := n0_; clear n0_; (try clear hb); (try clear hb2); (try clear hk); (try clear hi)) | ((with_reducible refine gate_callee (f := 27) rfl ?_); refine goesL_ (some 15) rfl rfl Try.func27 (by kernel_rfl) rfl #[.agg #[.int .i64 2, .int .i64 a0]] rfl (by (try simp only [List.map_toArray, List.map_cons, List.map_nil]); first | done | rfl | (simp only [List.length_drop, List.length_take]; rfl)) ?_; (with_reducible refine (nanbox_Box.calls k 2 a0 t163 t164 _ A5.out).mono ?_); rintro e w9 ⟨rfl, hb⟩; refine ⟨_, rfl, ?_⟩; have n0_ := Aside0.mk (below_step (by repeat (first | (with_reducible first | exact HB.out | apply below_alloc | apply pw_below_drewN | apply below_drew1) | exact HB.out)) hb); clear HB; have HB := n0_; clear n0_; (try clear hb); (try clear hb2); (try clear hk); (try clear hi)) | ((with_reducible refine gate_callee (f := 27) rfl ?_); refine goesL_ (some 21) rfl rfl Try.func27 (by kernel_rfl) rfl #[.agg #[.int .i64 2, .int .i64 a1]] rfl (by (try simp only [List.map_toArray, List.map_cons, List.map_nil]); first | done | rfl | (simp only [List.length_drop, List.length_take]; rfl)) ?_; (with_reducible refine (nanbox_Box.calls k 2 a1 t165 t166 _ A6.out).mono ?_); rintro e w10 ⟨rfl, hb⟩; refine ⟨_, rfl, ?_⟩; have n0_ := Aside0.mk (below_step (by repeat (first | (with_reducible first | exact HB.out | apply below_alloc | apply pw_below_drewN | apply below_drew1) | exact HB.out)) hb); clear HB; have HB := n0_; clear n0_; (try clear hb); (try clear hb2); (try clear hk); (try clear hi)))
    (try simp only [Act.put, List.setIfInBounds_toArray, List.set_cons_zero, List.set_cons_succ])
    go_cut [37] (fun v37 wc => ∃ (kq : Nat) (x37_6 : Bool), v37 = .bool x37_6 ∧ Aside0 (backstitchkeep3_NanboxInts.j0 kq a0 a1 t163 t165 x37_6 = some r) ∧ Aside0 (kq ≤ k) ∧ Aside0 (Below w.heap.size w wc))
    case first =>
      have H := HC7.out
      clear HC7
      replace H := Option.bind_eq_some_iff.mp H
      obtain ⟨t167, A110, H⟩ := H
      replace H : (if ((t164 == 0) != t167) = true then (backstitchkeep3_NanboxInts.j0 k a0 a1 t163 t165 true) else ((backstitchkeep3_NanboxInts_1.f a1).bind fun t168 => (backstitchkeep3_NanboxInts.j0 k a0 a1 t163 t165 ((t166 == 0) != t168)))) = some r := H
      have A11 := Aside0.mk A110
      clear A110
      by_cases c12 : ((t164 == 0) != t167) = true
      · rw [if_pos c12] at H
        have c12b0 : ((t164 == 0) != t167) = true := c12
        (try (have c12b1 : decide ((t164 == 0) = t167) = false := by simpa using c12))
        (try (have c12b2 : ((t164 == 0) == t167) = false := by simpa using c12))
        (try (have c12b3 : ¬ ((t164 == 0) = t167) := by simpa using c12))
        clear c12
        (first | rw [c12b0] | (simp only [i64_w, i32_w]; rw [c12b0]) | skip)
        have H' := Aside0.mk H
        clear H
        go_wp2_with (first | (go_at_call 28; (with_reducible refine (backstitchkeep3_NanboxInts_1.calls a0 t167 _ A11.out).mono ?_); rintro e w' ⟨rfl, ⟨nd, rfl⟩⟩))
        go_meet
        case rel => exact ⟨_, (true), (by first | rfl | (simp; done) | (simp [*]; done)), H', ⟨by first | omega | exact Nat.le_refl _⟩, ⟨by repeat (first | (with_reducible first | exact HB.out | apply below_alloc | apply pw_below_drewN | apply below_drew1) | exact HB.out)⟩⟩
      · rw [if_neg c12] at H
        have c12b0 : ((t164 == 0) != t167) = false := by simpa using c12
        (try (have c12b1 : decide ((t164 == 0) = t167) = true := by simpa using c12))
        (try (have c12b2 : ((t164 == 0) == t167) = true := by simpa using c12))
        clear c12
        (first | rw [c12b0] | (simp only [i64_w, i32_w]; rw [c12b0]) | skip)
        replace H := Option.bind_eq_some_iff.mp H
        obtain ⟨t168, A130, H⟩ := H
        replace H : (backstitchkeep3_NanboxInts.j0 k a0 a1 t163 t165 ((t166 == 0) != t168)) = some r := H
        have A13 := Aside0.mk A130
        clear A130
        have H' := Aside0.mk H
        clear H
        go_wp2_with (first | (go_at_call 28; (with_reducible refine (backstitchkeep3_NanboxInts_1.calls a0 t167 _ A11.out).mono ?_); rintro e w' ⟨rfl, ⟨nd, rfl⟩⟩) | (go_at_call 28; (with_reducible refine (backstitchkeep3_NanboxInts_1.calls a1 t168 _ A13.out).mono ?_); rintro e w' ⟨rfl, ⟨nd, rfl⟩⟩))
        go_meet
        case rel => exact ⟨_, (((t166 == 0) != t168)), (by first | rfl | (simp; done) | (simp [*]; done)), H', ⟨by first | omega | exact Nat.le_refl _⟩, ⟨by repeat (first | (with_reducible first | exact HB.out | apply below_alloc | apply pw_below_drewN | apply below_drew1) | exact HB.out)⟩⟩
    case rest =>
      clear HC7
      try clear c1
      try clear c2
      try clear p2
      try clear p3
      try clear c4
      try clear c7
      try clear c12
      try clear c12b0
      try clear c12b1
      try clear c12b2
      obtain ⟨kq, x37_6, rfl, HA, HJ6, HB⟩ := hcut
      cases kq with
      | zero => exact absurd HA.out (by simp [backstitchkeep3_NanboxInts.j0])
      | succ kj6 =>
        have H := HA.out
        clear HA
        simp only [backstitchkeep3_NanboxInts.j0] at H
        by_cases c14 : x37_6 = true
        · subst c14
          have H1 : (some false) = some r := by rw [if_pos rfl] at H; exact H
          clear H
          have H := H1
          clear H1
          obtain rfl := Option.some.inj H
          go_wp2
          go_ret
          exact ⟨by first | rfl | (simp [errW_none, errW_some] <;> rfl) | (simp [*, errW_none, errW_some] <;> rfl), by repeat (first | (with_reducible first | exact HB.out | apply below_alloc | apply pw_below_drewN | apply below_drew1) | exact HB.out)⟩
        · replace c14 := Bool.eq_false_iff.mpr c14
          subst c14
          have H1 : ((backstitchkeep3_boxed.f kj6).bind fun t169 => (if t169 = true then ((backstitchkeep3_NanboxInts_1.f a0).bind fun t170 => (if t170 = true then ((backstitchkeep3_NanboxInts_1.f a1).bind fun t171 => (if t171 = true then (if ((decide (a0 < 0)) != (decide (a1 < 0))) = true then (some true) else (some ((decide (a0 < a1)) == (decide (t163 < t165))))) else (some true))) else (some true))) else (some false))) = some r := by rw [if_neg (show ¬ (false = true) by decide)] at H; exact H
          clear H
          have H := H1
          clear H1
          replace H := Option.bind_eq_some_iff.mp H
          obtain ⟨t169, A150, H⟩ := H
          replace H : (if t169 = true then ((backstitchkeep3_NanboxInts_1.f a0).bind fun t170 => (if t170 = true then ((backstitchkeep3_NanboxInts_1.f a1).bind fun t171 => (if t171 = true then (if ((decide (a0 < 0)) != (decide (a1 < 0))) = true then (some true) else (some ((decide (a0 < a1)) == (decide (t163 < t165))))) else (some true))) else (some true))) else (some false)) = some r := H
          have A15 := Aside0.mk A150
          clear A150
          by_cases c16 : t169 = true
          · subst c16
            have H1 : ((backstitchkeep3_NanboxInts_1.f a0).bind fun t170 => (if t170 = true then ((backstitchkeep3_NanboxInts_1.f a1).bind fun t171 => (if t171 = true then (if ((decide (a0 < 0)) != (decide (a1 < 0))) = true then (some true) else (some ((decide (a0 < a1)) == (decide (t163 < t165))))) else (some true))) else (some true))) = some r := by rw [if_pos rfl] at H; exact H
            clear H
            have H := H1
            clear H1
            replace H := Option.bind_eq_some_iff.mp H
            obtain ⟨t170, A170, H⟩ := H
            replace H : (if t170 = true then ((backstitchkeep3_NanboxInts_1.f a1).bind fun t171 => (if t171 = true then (if ((decide (a0 < 0)) != (decide (a1 < 0))) = true then (some true) else (some ((decide (a0 < a1)) == (decide (t163 < t165))))) else (some true))) else (some true)) = some r := H
            have A17 := Aside0.mk A170
            clear A170
            by_cases c18 : t170 = true
            · subst c18
              have H1 : ((backstitchkeep3_NanboxInts_1.f a1).bind fun t171 => (if t171 = true then (if ((decide (a0 < 0)) != (decide (a1 < 0))) = true then (some true) else (some ((decide (a0 < a1)) == (decide (t163 < t165))))) else (some true))) = some r := by rw [if_pos rfl] at H; exact H
              clear H
              have H := H1
              clear H1
              replace H := Option.bind_eq_some_iff.mp H
              obtain ⟨t171, A190, H⟩ := H
              replace H : (if t171 = true then (if ((decide (a0 < 0)) != (decide (a1 < 0))) = true then (some true) else (some ((decide (a0 < a1)) == (decide (t163 < t165))))) else (some true)) = some r := H
              have A19 := Aside0.mk A190
              clear A190
              by_cases c20 : t171 = true
              · subst c20
                have H1 : (if ((decide (a0 < 0)) != (decide (a1 < 0))) = true then (some true) else (some ((decide (a0 < a1)) == (decide (t163 < t165))))) = some r := by rw [if_pos rfl] at H; exact H
                clear H
                have H := H1
                clear H1
                by_cases c21 : ((decide (a0 < 0)) != (decide (a1 < 0))) = true
                · rw [if_pos c21] at H
                  have c21b0 : ((decide (a0 < 0)) != (decide (a1 < 0))) = true := c21
                  (try (have c21b1 : decide ((decide (a0 < 0)) = (decide (a1 < 0))) = false := by simpa using c21))
                  (try (have c21b2 : ((decide (a0 < 0)) == (decide (a1 < 0))) = false := by simpa using c21))
                  (try (have c21b3 : ¬ ((decide (a0 < 0)) = (decide (a1 < 0))) := by simpa using c21))
                  clear c21
                  obtain rfl := Option.some.inj H
                  go_wp2_with (first | ((with_reducible refine gate_callee (f := 26) rfl ?_); refine goesL_ (some 38) rfl rfl Try.func26 (by kernel_rfl) rfl #[] rfl (by (try simp only [List.map_toArray, List.map_cons, List.map_nil]); first | done | rfl | (simp only [List.length_drop, List.length_take]; rfl)) ?_; (with_reducible refine (backstitchkeep3_boxed.calls kj6  true _ A15.out).mono ?_); rintro e w22 ⟨rfl, hb⟩; refine ⟨_, rfl, ?_⟩; have n0_ := Aside0.mk (below_step (by repeat (first | (with_reducible first | exact HB.out | apply below_alloc | apply pw_below_drewN | apply below_drew1) | exact HB.out)) hb); clear HB; have HB := n0_; clear n0_; (try clear hb); (try clear hb2); (try clear hk); (try clear hi)) | (go_at_call 28; (with_reducible refine (backstitchkeep3_NanboxInts_1.calls a0 true _ A17.out).mono ?_); rintro e w' ⟨rfl, ⟨nd, rfl⟩⟩) | (go_at_call 28; (with_reducible refine (backstitchkeep3_NanboxInts_1.calls a1 true _ A19.out).mono ?_); rintro e w' ⟨rfl, ⟨nd, rfl⟩⟩))
                  go_ret
                  exact ⟨by first | rfl | (simp [errW_none, errW_some] <;> rfl) | (simp [*, errW_none, errW_some] <;> rfl), by repeat (first | (with_reducible first | exact HB.out | apply below_alloc | apply pw_below_drewN | apply below_drew1) | exact HB.out)⟩
                · rw [if_neg c21] at H
                  have c21b0 : ((decide (a0 < 0)) != (decide (a1 < 0))) = false := by simpa using c21
                  (try (have c21b1 : decide ((decide (a0 < 0)) = (decide (a1 < 0))) = true := by simpa using c21))
                  (try (have c21b2 : ((decide (a0 < 0)) == (decide (a1 < 0))) = true := by simpa using c21))
                  clear c21
                  obtain rfl := Option.some.inj H
                  go_wp2_with (first | ((with_reducible refine gate_callee (f := 26) rfl ?_); refine goesL_ (some 38) rfl rfl Try.func26 (by kernel_rfl) rfl #[] rfl (by (try simp only [List.map_toArray, List.map_cons, List.map_nil]); first | done | rfl | (simp only [List.length_drop, List.length_take]; rfl)) ?_; (with_reducible refine (backstitchkeep3_boxed.calls kj6  true _ A15.out).mono ?_); rintro e w23 ⟨rfl, hb⟩; refine ⟨_, rfl, ?_⟩; have n0_ := Aside0.mk (below_step (by repeat (first | (with_reducible first | exact HB.out | apply below_alloc | apply pw_below_drewN | apply below_drew1) | exact HB.out)) hb); clear HB; have HB := n0_; clear n0_; (try clear hb); (try clear hb2); (try clear hk); (try clear hi)) | (go_at_call 28; (with_reducible refine (backstitchkeep3_NanboxInts_1.calls a0 true _ A17.out).mono ?_); rintro e w' ⟨rfl, ⟨nd, rfl⟩⟩) | (go_at_call 28; (with_reducible refine (backstitchkeep3_NanboxInts_1.calls a1 true _ A19.out).mono ?_); rintro e w' ⟨rfl, ⟨nd, rfl⟩⟩))
                  go_ret
                  exact ⟨by first | rfl | (simp [errW_none, errW_some] <;> rfl) | (simp [*, errW_none, errW_some] <;> rfl), by repeat (first | (with_reducible first | exact HB.out | apply below_alloc | apply pw_below_drewN | apply below_drew1) | exact HB.out)⟩
              · replace c20 := Bool.eq_false_iff.mpr c20
                subst c20
                have H1 : (some true) = some r := by rw [if_neg (show ¬ (false = true) by decide)] at H; exact H
                clear H
                have H := H1
                clear H1
                obtain rfl := Option.some.inj H
                go_wp2_with (first | ((with_reducible refine gate_callee (f := 26) rfl ?_); refine goesL_ (some 38) rfl rfl Try.func26 (by kernel_rfl) rfl #[] rfl (by (try simp only [List.map_toArray, List.map_cons, List.map_nil]); first | done | rfl | (simp only [List.length_drop, List.length_take]; rfl)) ?_; (with_reducible refine (backstitchkeep3_boxed.calls kj6  true _ A15.out).mono ?_); rintro e w24 ⟨rfl, hb⟩; refine ⟨_, rfl, ?_⟩; have n0_ := Aside0.mk (below_step (by repeat (first | (with_reducible first | exact HB.out | apply below_alloc | apply pw_below_drewN | apply below_drew1) | exact HB.out)) hb); clear HB; have HB := n0_; clear n0_; (try clear hb); (try clear hb2); (try clear hk); (try clear hi)) | (go_at_call 28; (with_reducible refine (backstitchkeep3_NanboxInts_1.calls a0 true _ A17.out).mono ?_); rintro e w' ⟨rfl, ⟨nd, rfl⟩⟩) | (go_at_call 28; (with_reducible refine (backstitchkeep3_NanboxInts_1.calls a1 false _ A19.out).mono ?_); rintro e w' ⟨rfl, ⟨nd, rfl⟩⟩))
                go_ret
                exact ⟨by first | rfl | (simp [errW_none, errW_some] <;> rfl) | (simp [*, errW_none, errW_some] <;> rfl), by repeat (first | (with_reducible first | exact HB.out | apply below_alloc | apply pw_below_drewN | apply below_drew1) | exact HB.out)⟩
            · replace c18 := Bool.eq_false_iff.mpr c18
              subst c18
              have H1 : (some true) = some r := by rw [if_neg (show ¬ (false = true) by decide)] at H; exact H
              clear H
              have H := H1
              clear H1
              obtain rfl := Option.some.inj H
              go_wp2_with (first | ((with_reducible refine gate_callee (f := 26) rfl ?_); refine goesL_ (some 38) rfl rfl Try.func26 (by kernel_rfl) rfl #[] rfl (by (try simp only [List.map_toArray, List.map_cons, List.map_nil]); first | done | rfl | (simp only [List.length_drop, List.length_take]; rfl)) ?_; (with_reducible refine (backstitchkeep3_boxed.calls kj6  true _ A15.out).mono ?_); rintro e w25 ⟨rfl, hb⟩; refine ⟨_, rfl, ?_⟩; have n0_ := Aside0.mk (below_step (by repeat (first | (with_reducible first | exact HB.out | apply below_alloc | apply pw_below_drewN | apply below_drew1) | exact HB.out)) hb); clear HB; have HB := n0_; clear n0_; (try clear hb); (try clear hb2); (try clear hk); (try clear hi)) | (go_at_call 28; (with_reducible refine (backstitchkeep3_NanboxInts_1.calls a0 false _ A17.out).mono ?_); rintro e w' ⟨rfl, ⟨nd, rfl⟩⟩))
              go_ret
              exact ⟨by first | rfl | (simp [errW_none, errW_some] <;> rfl) | (simp [*, errW_none, errW_some] <;> rfl), by repeat (first | (with_reducible first | exact HB.out | apply below_alloc | apply pw_below_drewN | apply below_drew1) | exact HB.out)⟩
          · replace c16 := Bool.eq_false_iff.mpr c16
            subst c16
            have H1 : (some false) = some r := by rw [if_neg (show ¬ (false = true) by decide)] at H; exact H
            clear H
            have H := H1
            clear H1
            obtain rfl := Option.some.inj H
            go_wp2_with (first | ((with_reducible refine gate_callee (f := 26) rfl ?_); refine goesL_ (some 38) rfl rfl Try.func26 (by kernel_rfl) rfl #[] rfl (by (try simp only [List.map_toArray, List.map_cons, List.map_nil]); first | done | rfl | (simp only [List.length_drop, List.length_take]; rfl)) ?_; (with_reducible refine (backstitchkeep3_boxed.calls kj6  false _ A15.out).mono ?_); rintro e w26 ⟨rfl, hb⟩; refine ⟨_, rfl, ?_⟩; have n0_ := Aside0.mk (below_step (by repeat (first | (with_reducible first | exact HB.out | apply below_alloc | apply pw_below_drewN | apply below_drew1) | exact HB.out)) hb); clear HB; have HB := n0_; clear n0_; (try clear hb); (try clear hb2); (try clear hk); (try clear hi)))
            go_ret
            exact ⟨by first | rfl | (simp [errW_none, errW_some] <;> rfl) | (simp [*, errW_none, errW_some] <;> rfl), by repeat (first | (with_reducible first | exact HB.out | apply below_alloc | apply pw_below_drewN | apply below_drew1) | exact HB.out)⟩
  · replace c4 := Bool.eq_false_iff.mpr c4
    subst c4
    have H1 : (some false) = some r := by rw [if_neg (show ¬ (false = true) by decide)] at H; exact H
    clear H
    have H := H1
    clear H1
    obtain rfl := Option.some.inj H
    go_enter Try.func7, Try.ntmps7
    go_wp2_with (first | ((with_reducible refine gate_callee (f := 26) rfl ?_); refine goesL_ (some 10) rfl rfl Try.func26 (by kernel_rfl) rfl #[] rfl (by (try simp only [List.map_toArray, List.map_cons, List.map_nil]); first | done | rfl | (simp only [List.length_drop, List.length_take]; rfl)) ?_; (with_reducible refine (backstitchkeep3_boxed.calls k  false _ A3.out).mono ?_); rintro e w27 ⟨rfl, hb⟩; refine ⟨_, rfl, ?_⟩; have n0_ := Aside0.mk (below_step (by repeat (first | (with_reducible first | exact HB.out | apply below_alloc | apply pw_below_drewN | apply below_drew1) | exact HB.out)) hb); clear HB; have HB := n0_; clear n0_; (try clear hb); (try clear hb2); (try clear hk); (try clear hi)))
    go_ret
    exact ⟨by first | rfl | (simp [errW_none, errW_some] <;> rfl) | (simp [*, errW_none, errW_some] <;> rfl), by repeat (first | (with_reducible first | exact HB.out | apply below_alloc | apply pw_below_drewN | apply below_drew1) | exact HB.out)⟩

/-- THE ONE PURE STATEMENT of backstitchkeep3_NanboxInts: yours. -/
def backstitchkeep3_NanboxInts.Pure : Prop := ∀ (a0 : Int) (a1 : Int), (Lit.int .i64 a0).wf = true → (Lit.int .i64 a1).wf = true → ∃ k, backstitchkeep3_NanboxInts.f k a0 a1 = some true
theorem backstitchkeep3_NanboxInts.walk (P : backstitchkeep3_NanboxInts.Pure) (a0 : Int) (a1 : Int) (w : World) (w0 : (Lit.int .i64 a0).wf = true) (w1 : (Lit.int .i64 a1).wf = true) :
    Calls Try.prog 7 #[.int .i64 a0, .int .i64 a1] w fun e w' => e = .returned (.bool true) ∧ Below w.heap.size w w' := by
  obtain ⟨k, h⟩ := P a0 a1 w0 w1
  refine (backstitchkeep3_NanboxInts.calls k a0 a1 true w h).mono ?_
  rintro e w' ⟨rfl, hd⟩
  exact ⟨rfl, hd⟩

end Go.Proofs.Ytchcbncelckgeaa.PQ
