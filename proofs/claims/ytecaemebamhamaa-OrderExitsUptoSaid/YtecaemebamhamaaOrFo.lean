/- Package order walked: formed. -/
import Derived.Test.YtecaemebamhamaaOrPc
set_option linter.unusedVariables false
set_option linter.unusedSimpArgs false
namespace Go.Proofs.Ytecaemebamhamaa.Lv
open Go.RowKit Go.Proofs.YtecaemebamhamaaW.PrintWords Go.Proofs.YtecaemebamhamaaW.PrintLast Go.Proofs.YtecaemebamhamaaW.PrintMore Go.Proofs.Ytecaemebamhamaa.PO Go.Proofs.Ytecaemebamhamaa.Hnd Go.Lib

set_option maxHeartbeats 16000000 in
set_option maxRecDepth 100000 in
theorem formed1_calls (w : World) (m : RM) (A3 : Option Addr) (c3 : Nat) :
    Calls Try.prog 69 #[.agg #[.int .i64 m.f0.f0, .int .i64 m.f0.f1, .int .i64 m.f1, .int .i64 m.f2, .slice A3 m.f3.length c3]] w fun e w' => e = .returned (.bool (badMk m)) ∧ Below w.heap.size w w' := by
  obtain ⟨ob, hob⟩ : ∃ ob, ob = Obj.cells #[.int .i64 m.f0.f0, .int .i64 m.f0.f1, .int .i64 m.f1, .int .i64 m.f2, .slice A3 m.f3.length c3] 118 := ⟨_, rfl⟩
  have HB := Aside0.mk (below_alloc (Below.refl w.heap.size w) ob)
  have hsb : (w.alloc ob).heap[w.heap.size]? = some (.cells #[.int .i64 m.f0.f0, .int .i64 m.f0.f1, .int .i64 m.f1, .int .i64 m.f2, .slice A3 m.f3.length c3] 118 (0, 0)) := by rw [hob]; exact blk_new w _
  have k2 := (blk_cell hsb 2).trans rfl
  have k3 := (blk_cell hsb 3).trans rfl
  rw [hob] at k2 k3 HB
  clear hsb hob
  by_cases h1 : m.f1 < 1
  · have H1 := Aside0.mk h1
    have d1 : decide (m.f1 < 1) = true := decide_eq_true h1
    have e1 : decide (1 > m.f1) = true := d1
    have g1 : decide (1 ≤ m.f1) = false := decide_eq_false (by omega)
    have k1 : decide (m.f1 ≥ 1) = false := g1
    clear h1
    have he : badMk m = true := by unfold badMk; rw [if_pos H1.out]
    rw [he]
    clear he
    go_enter Try.func69, Try.ntmps69
    go_wp2_with fail
    go_ret
    exact ⟨rfl, HB.out⟩
  · have H1 := Aside0.mk h1
    have d1 : decide (m.f1 < 1) = false := decide_eq_false h1
    have e1 : decide (1 > m.f1) = false := d1
    have g1 : decide (1 ≤ m.f1) = true := decide_eq_true (by omega)
    have k1 : decide (m.f1 ≥ 1) = true := g1
    clear h1
    by_cases h2 : 3 < m.f1
    · have H2 := Aside0.mk h2
      have d2 : decide (3 < m.f1) = true := decide_eq_true h2
      have e2 : decide (m.f1 > 3) = true := d2
      have g2 : decide (m.f1 ≤ 3) = false := decide_eq_false (by omega)
      have k2 : decide (3 ≥ m.f1) = false := g2
      clear h2
      have he : badMk m = true := by unfold badMk; rw [if_neg H1.out, if_pos H2.out]
      rw [he]
      clear he
      go_enter Try.func69, Try.ntmps69
      go_wp2_with fail
      go_ret
      exact ⟨rfl, HB.out⟩
    · have H2 := Aside0.mk h2
      have d2 : decide (3 < m.f1) = false := decide_eq_false h2
      have e2 : decide (m.f1 > 3) = false := d2
      have g2 : decide (m.f1 ≤ 3) = true := decide_eq_true (by omega)
      have k2 : decide (3 ≥ m.f1) = true := g2
      clear h2
      by_cases h3 : m.f2 < 0
      · have H3 := Aside0.mk h3
        have d3 : decide (m.f2 < 0) = true := decide_eq_true h3
        have e3 : decide (0 > m.f2) = true := d3
        have g3 : decide (0 ≤ m.f2) = false := decide_eq_false (by omega)
        have k3 : decide (m.f2 ≥ 0) = false := g3
        clear h3
        have he : badMk m = true := by unfold badMk; rw [if_neg H1.out, if_neg H2.out, if_pos H3.out]
        rw [he]
        clear he
        go_enter Try.func69, Try.ntmps69
        go_wp2_with fail
        go_ret
        exact ⟨rfl, HB.out⟩
      · have H3 := Aside0.mk h3
        have d3 : decide (m.f2 < 0) = false := decide_eq_false h3
        have e3 : decide (0 > m.f2) = false := d3
        have g3 : decide (0 ≤ m.f2) = true := decide_eq_true (by omega)
        have k3 : decide (m.f2 ≥ 0) = true := g3
        clear h3
        by_cases h4 : 0 < m.f2
        · have H4 := Aside0.mk h4
          have d4 : decide (0 < m.f2) = true := decide_eq_true h4
          have e4 : decide (m.f2 > 0) = true := d4
          have g4 : decide (m.f2 ≤ 0) = false := decide_eq_false (by omega)
          have k4 : decide (0 ≥ m.f2) = false := g4
          clear h4
          by_cases h5 : m.f1 = 1
          · have H5 := Aside0.mk h5
            have d5 : (m.f1 == 1) = true := by rw [beq_iff_eq]; exact h5
            have e5 : (m.f1 != 1) = false := by rw [bne, d5]; rfl
            clear h5
            have e5_ : (m.f1 != 1) = false := e5
            have he : badMk m = false := by unfold badMk; rw [if_neg H1.out, if_neg H2.out, if_neg H3.out, if_pos H4.out, e5_]
            rw [he]
            clear he
            go_enter Try.func69, Try.ntmps69
            go_wp2_with fail
            go_ret
            exact ⟨rfl, HB.out⟩
          · have H5 := Aside0.mk h5
            have d5 : (m.f1 == 1) = false := beq_eq_false_iff_ne.mpr h5
            have e5 : (m.f1 != 1) = true := by rw [bne, d5]; rfl
            clear h5
            have e5_ : (m.f1 != 1) = true := e5
            have he : badMk m = true := by unfold badMk; rw [if_neg H1.out, if_neg H2.out, if_neg H3.out, if_pos H4.out, e5_]
            rw [he]
            clear he
            go_enter Try.func69, Try.ntmps69
            go_wp2_with fail
            go_ret
            exact ⟨rfl, HB.out⟩
        · have H4 := Aside0.mk h4
          have d4 : decide (0 < m.f2) = false := decide_eq_false h4
          have e4 : decide (m.f2 > 0) = false := d4
          have g4 : decide (m.f2 ≤ 0) = true := decide_eq_true (by omega)
          have k4 : decide (0 ≥ m.f2) = true := g4
          clear h4
          have he : badMk m = false := by unfold badMk; rw [if_neg H1.out, if_neg H2.out, if_neg H3.out, if_neg H4.out]
          rw [he]
          clear he
          go_enter Try.func69, Try.ntmps69
          go_wp2_with fail
          go_ret
          exact ⟨rfl, HB.out⟩

set_option maxHeartbeats 16000000 in
set_option maxRecDepth 100000 in
theorem formed2_calls (w : World) (q : RP) (n : Int) (b3 : Nat) (h3 : w.heap[b3]? = some (.cells #[.int .i64 n] 3 (0, 0))) :
    Calls Try.prog 70 #[.agg #[.int .i64 q.f0, .int .i64 q.f1], .pointer (some ⟨b3, 0, none⟩)] w fun e w' => e = .returned (.bool (badPl n q)) ∧ Below w.heap.size w w' := by
  obtain ⟨ob, hob⟩ : ∃ ob, ob = Obj.cells #[.int .i64 q.f0, .int .i64 q.f1] 59 := ⟨_, rfl⟩
  have hal := below_alloc (Below.refl w.heap.size w) ob
  have HB := Aside0.mk hal
  have HP : Aside0 ((w.alloc ob).heap[w.heap.size]? = some (.cells #[.int .i64 q.f0, .int .i64 q.f1] 59 (0, 0))) := ⟨by rw [hob]; exact blk_new w _⟩
  have HN := Aside0.mk (blk_below h3 hal)
  obtain ⟨r, hr⟩ : ∃ r, r = badPl n q := ⟨_, rfl⟩
  rw [← hr]
  have HR := Aside0.mk hr
  clear h3 hal hr
  go_enter Try.func70, Try.ntmps70
  go_upto_region 1 with fail
  rw [← hob]
  clear hob
  generalize w.alloc ob = wa at HB HP HN ⊢
  have k0 := (blk_cell HP.out 0).trans rfl
  have k1 := (blk_cell HP.out 1).trans rfl
  have n0 := (blk_cell HN.out 0).trans rfl
  by_cases h1 : q.f1 = -1
  · have H1 := Aside0.mk h1
    have d1 : (q.f1 == -1) = true := by rw [beq_iff_eq]; exact h1
    have e1 : (q.f1 != -1) = false := by rw [bne, d1]; rfl
    clear h1
    cases hq : isRegB q.f0 with
    | true =>
      have HVV : Aside0 (r = false) := ⟨by rw [HR.out]; unfold badPl; rw [if_pos ⟨H1.out, hq⟩]⟩
      go_wp2_with fail
      refine (order_isReg.calls q.f0 true _ (by rw [← hq]; exact isReg_f q.f0)).mono ?_
      rintro e w2 ⟨rfl, hd2⟩
      have HB2 := Aside0.mk (below_step HB.out hd2.below)
      clear hd2 hq
      go_wp2_with fail
      go_ret
      rw [HVV.out]
      exact ⟨rfl, HB2.out⟩
    | false =>
      have HQ := Aside0.mk hq
      go_wp2_with fail
      refine (order_isReg.calls q.f0 false _ (by rw [← HQ.out]; exact isReg_f q.f0)).mono ?_
      rintro e w2 ⟨rfl, hd2⟩
      have HB2 := Aside0.mk (below_step HB.out hd2.below)
      have c0 := (blk_cell (blk_below HP.out hd2.below) 0).trans rfl
      have c1 := (blk_cell (blk_below HP.out hd2.below) 1).trans rfl
      have c2 := (blk_cell (blk_below HN.out hd2.below) 0).trans rfl
      have hne : Aside0 (¬ (q.f1 = -1 ∧ isRegB q.f0 = true)) := ⟨fun h => by rw [HQ.out] at h; exact absurd h.2 (by decide)⟩
      clear hd2 hq k0 k1 n0 HP HN HB
      by_cases h3 : q.f0 = -1
      · have H3 := Aside0.mk h3
        have d3 : (q.f0 == -1) = true := by rw [beq_iff_eq]; exact h3
        have e3 : (q.f0 != -1) = false := by rw [bne, d3]; rfl
        clear h3
        by_cases h4 : 0 ≤ q.f1
        · have H4 := Aside0.mk h4
          have d4 : decide (0 ≤ q.f1) = true := decide_eq_true h4
          have e4 : decide (q.f1 ≥ 0) = true := d4
          clear h4
          by_cases h5 : q.f1 < n
          · have H5 := Aside0.mk h5
            have d5 : decide (q.f1 < n) = true := decide_eq_true h5
            have e5 : decide (n > q.f1) = true := d5
            have g5 : decide (n ≤ q.f1) = false := decide_eq_false (by omega)
            have k5 : decide (q.f1 ≥ n) = false := g5
            clear h5
            have HVV : Aside0 (r = false) := ⟨by rw [HR.out]; unfold badPl; rw [if_neg hne.out, if_pos ⟨H3.out, H4.out, H5.out⟩]⟩
            go_wp2_with fail
            go_ret
            rw [HVV.out]
            exact ⟨rfl, HB2.out⟩
          · have H5 := Aside0.mk h5
            have d5 : decide (q.f1 < n) = false := decide_eq_false h5
            have e5 : decide (n > q.f1) = false := d5
            have g5 : decide (n ≤ q.f1) = true := decide_eq_true (by omega)
            have k5 : decide (q.f1 ≥ n) = true := g5
            clear h5
            have HVV : Aside0 (r = true) := ⟨by rw [HR.out]; unfold badPl; rw [if_neg hne.out, if_neg (fun h_ => H5.out h_.2.2)]⟩
            go_wp2_with fail
            go_ret
            rw [HVV.out]
            exact ⟨rfl, HB2.out⟩
        · have H4 := Aside0.mk h4
          have d4 : decide (0 ≤ q.f1) = false := decide_eq_false h4
          have e4 : decide (q.f1 ≥ 0) = false := d4
          clear h4
          have HVV : Aside0 (r = true) := ⟨by rw [HR.out]; unfold badPl; rw [if_neg hne.out, if_neg (fun h_ => H4.out h_.2.1)]⟩
          go_wp2_with fail
          go_ret
          rw [HVV.out]
          exact ⟨rfl, HB2.out⟩
      · have H3 := Aside0.mk h3
        have d3 : (q.f0 == -1) = false := beq_eq_false_iff_ne.mpr h3
        have e3 : (q.f0 != -1) = true := by rw [bne, d3]; rfl
        clear h3
        have HVV : Aside0 (r = true) := ⟨by rw [HR.out]; unfold badPl; rw [if_neg hne.out, if_neg (fun h_ => H3.out h_.1)]⟩
        go_wp2_with fail
        go_ret
        rw [HVV.out]
        exact ⟨rfl, HB2.out⟩
  · have H1 := Aside0.mk h1
    have d1 : (q.f1 == -1) = false := beq_eq_false_iff_ne.mpr h1
    have e1 : (q.f1 != -1) = true := by rw [bne, d1]; rfl
    clear h1
    have hne : Aside0 (¬ (q.f1 = -1 ∧ isRegB q.f0 = true)) := ⟨fun h => H1.out h.1⟩
    by_cases h3 : q.f0 = -1
    · have H3 := Aside0.mk h3
      have d3 : (q.f0 == -1) = true := by rw [beq_iff_eq]; exact h3
      have e3 : (q.f0 != -1) = false := by rw [bne, d3]; rfl
      clear h3
      by_cases h4 : 0 ≤ q.f1
      · have H4 := Aside0.mk h4
        have d4 : decide (0 ≤ q.f1) = true := decide_eq_true h4
        have e4 : decide (q.f1 ≥ 0) = true := d4
        clear h4
        by_cases h5 : q.f1 < n
        · have H5 := Aside0.mk h5
          have d5 : decide (q.f1 < n) = true := decide_eq_true h5
          have e5 : decide (n > q.f1) = true := d5
          have g5 : decide (n ≤ q.f1) = false := decide_eq_false (by omega)
          have k5 : decide (q.f1 ≥ n) = false := g5
          clear h5
          have HVV : Aside0 (r = false) := ⟨by rw [HR.out]; unfold badPl; rw [if_neg hne.out, if_pos ⟨H3.out, H4.out, H5.out⟩]⟩
          go_wp2_with fail
          go_ret
          rw [HVV.out]
          exact ⟨rfl, HB.out⟩
        · have H5 := Aside0.mk h5
          have d5 : decide (q.f1 < n) = false := decide_eq_false h5
          have e5 : decide (n > q.f1) = false := d5
          have g5 : decide (n ≤ q.f1) = true := decide_eq_true (by omega)
          have k5 : decide (q.f1 ≥ n) = true := g5
          clear h5
          have HVV : Aside0 (r = true) := ⟨by rw [HR.out]; unfold badPl; rw [if_neg hne.out, if_neg (fun h_ => H5.out h_.2.2)]⟩
          go_wp2_with fail
          go_ret
          rw [HVV.out]
          exact ⟨rfl, HB.out⟩
      · have H4 := Aside0.mk h4
        have d4 : decide (0 ≤ q.f1) = false := decide_eq_false h4
        have e4 : decide (q.f1 ≥ 0) = false := d4
        clear h4
        have HVV : Aside0 (r = true) := ⟨by rw [HR.out]; unfold badPl; rw [if_neg hne.out, if_neg (fun h_ => H4.out h_.2.1)]⟩
        go_wp2_with fail
        go_ret
        rw [HVV.out]
        exact ⟨rfl, HB.out⟩
    · have H3 := Aside0.mk h3
      have d3 : (q.f0 == -1) = false := beq_eq_false_iff_ne.mpr h3
      have e3 : (q.f0 != -1) = true := by rw [bne, d3]; rfl
      clear h3
      have HVV : Aside0 (r = true) := ⟨by rw [HR.out]; unfold badPl; rw [if_neg hne.out, if_neg (fun h_ => H3.out h_.1)]⟩
      go_wp2_with fail
      go_ret
      rw [HVV.out]
      exact ⟨rfl, HB.out⟩

set_option maxHeartbeats 32000000 in
set_option maxRecDepth 100000 in
theorem formed_calls (w : World) (x : RX) (n : Int) (A2 : Option Addr) (c2 : Nat) (A3 : Option Addr) (c3 : Nat) (h2 : Kd.C k126 w A2 x.f2.length x.f2) (hc2 : x.f2.length ≤ c2) (h3 : Kd.C k118 w A3 x.f3.length x.f3) (hc3 : x.f3.length ≤ c3) (hz : bigX x ≤ 2000000) :
    Calls Try.prog 35 #[.agg #[.int .i64 x.f0, .int .i64 x.f1, .slice A2 x.f2.length c2, .slice A3 x.f3.length c3], .int .i64 n] w fun e w' => e = .returned (.bool (formedB x n)) ∧ Below w.heap.size w w' := by
  obtain ⟨o1, ho1⟩ : ∃ ob, ob = Obj.cells #[.int .i64 x.f0, .int .i64 x.f1, .slice A2 x.f2.length c2, .slice A3 x.f3.length c3] 27 := ⟨_, rfl⟩
  obtain ⟨o2, ho2⟩ : ∃ ob, ob = Obj.cells #[.int .i64 n] 3 := ⟨_, rfl⟩
  have hsz : (w.alloc o1).heap.size = w.heap.size + 1 := Array.size_push _
  have hal := below_alloc (below_alloc (Below.refl w.heap.size w) o1) o2
  have HB := Aside0.mk hal
  have HX : Aside0 (((w.alloc o1).alloc o2).heap[w.heap.size]? = some (.cells #[.int .i64 x.f0, .int .i64 x.f1, .slice A2 x.f2.length c2, .slice A3 x.f3.length c3] 27 (0, 0))) := ⟨blk_alloc (by rw [ho1]; exact blk_new w _) _⟩
  have HN : Aside0 (((w.alloc o1).alloc o2).heap[w.heap.size + 1]? = some (.cells #[.int .i64 n] 3 (0, 0))) := ⟨by have h_ := blk_new (w.alloc o1) o2; rw [hsz] at h_; rw [ho2] at h_ ⊢; exact h_⟩
  have HK := Aside0.mk (And.intro (Kd.C_below h2 hal) (Kd.C_below h3 hal))
  have HC := Aside0.mk (And.intro hc2 hc3)
  have HZ : Aside0 (x.f2.length ≤ 2000000 ∧ x.f3.length ≤ 2000000) := ⟨Nat.le_trans (Nat.le_add_right _ _) hz, Nat.le_trans (Nat.le_mul_of_pos_left _ (by decide)) (Nat.le_trans (makes_len x.f3) (Nat.le_trans (Nat.le_add_left _ _) hz))⟩
  obtain ⟨KP, hKP⟩ := places_f x hz
  have HKP := Aside0.mk hKP
  have HPL : Aside0 ((placesL x).length ≤ 2000000) := ⟨Nat.le_trans (placesL_len x) hz⟩
  obtain ⟨r, hr⟩ : ∃ r, r = formedB x n := ⟨_, rfl⟩
  rw [← hr]
  have HR := Aside0.mk hr
  clear hal h2 hc2 h3 hc3 hKP hz hr hsz
  go_enter Try.func35, Try.ntmps35
  go_upto_region 1 with fail
  rw [← ho1, ← ho2]
  clear ho1 ho2
  generalize (w.alloc o1).alloc o2 = wa at HB HX HN HK ⊢
  have x0 := (blk_cell HX.out 0).trans rfl
  have x1 := (blk_cell HX.out 1).trans rfl
  have x2 := (blk_cell HX.out 2).trans rfl
  have x3 := (blk_cell HX.out 3).trans rfl
  by_cases h1 : x.f0 < 0
  · have H1 := Aside0.mk h1
    have d1 : decide (x.f0 < 0) = true := decide_eq_true h1
    have e1 : decide (0 > x.f0) = true := d1
    have g1 : decide (0 ≤ x.f0) = false := decide_eq_false (by omega)
    have k1 : decide (x.f0 ≥ 0) = false := g1
    clear h1
    have HVV : Aside0 (r = false) := ⟨by rw [HR.out]; unfold formedB; rw [if_pos H1.out]⟩
    go_wp2_with fail
    go_ret
    rw [HVV.out]
    exact ⟨rfl, HB.out⟩
  · have H1 := Aside0.mk h1
    have d1 : decide (x.f0 < 0) = false := decide_eq_false h1
    have e1 : decide (0 > x.f0) = false := d1
    have g1 : decide (0 ≤ x.f0) = true := decide_eq_true (by omega)
    have k1 : decide (x.f0 ≥ 0) = true := g1
    clear h1
    by_cases h2 : x.f1 < 0
    · have H2 := Aside0.mk h2
      have d2 : decide (x.f1 < 0) = true := decide_eq_true h2
      have e2 : decide (0 > x.f1) = true := d2
      have g2 : decide (0 ≤ x.f1) = false := decide_eq_false (by omega)
      have k2 : decide (x.f1 ≥ 0) = false := g2
      clear h2
      have HVV : Aside0 (r = false) := ⟨by rw [HR.out]; unfold formedB; rw [if_neg H1.out, if_pos H2.out]⟩
      go_wp2_with fail
      go_ret
      rw [HVV.out]
      exact ⟨rfl, HB.out⟩
    · have H2 := Aside0.mk h2
      have d2 : decide (x.f1 < 0) = false := decide_eq_false h2
      have e2 : decide (0 > x.f1) = false := d2
      have g2 : decide (0 ≤ x.f1) = true := decide_eq_true (by omega)
      have k2 : decide (x.f1 ≥ 0) = true := g2
      clear h2
      by_cases h3 : 200 < x.f1
      · have H3 := Aside0.mk h3
        have d3 : decide (200 < x.f1) = true := decide_eq_true h3
        have e3 : decide (x.f1 > 200) = true := d3
        have g3 : decide (x.f1 ≤ 200) = false := decide_eq_false (by omega)
        have k3 : decide (200 ≥ x.f1) = false := g3
        clear h3
        have HVV : Aside0 (r = false) := ⟨by rw [HR.out]; unfold formedB; rw [if_neg H1.out, if_neg H2.out, if_pos H3.out]⟩
        go_wp2_with fail
        go_ret
        rw [HVV.out]
        exact ⟨rfl, HB.out⟩
      · have H3 := Aside0.mk h3
        have d3 : decide (200 < x.f1) = false := decide_eq_false h3
        have e3 : decide (x.f1 > 200) = false := d3
        have g3 : decide (x.f1 ≤ 200) = true := decide_eq_true (by omega)
        have k3 : decide (200 ≥ x.f1) = true := g3
        clear h3
        have HV : Aside0 (r = if setsR (-1) x.f2 = false then false else if x.f3.any badMk = true then false else !(placesL x).any (badPl n)) := ⟨by rw [HR.out]; unfold formedB; rw [if_neg H1.out, if_neg H2.out, if_neg H3.out]⟩
        go_wp2_with fail
        go_loopg [5, 24] x.f2.length (fun kq v5 v24 W => ∃ i : Nat, v24 = .int .i64 (i : Int) ∧ v5 = .int .i64 (lastR x.f2 i) ∧ Aside0 (i ≤ x.f2.length ∧ kq = x.f2.length - i) ∧ Aside0 (∀ j : Nat, j < i → lastR x.f2 j < (rd_T126 x.f2 (j : Int)).f0 ∧ (rd_T126 x.f2 (j : Int)).f0 < 60) ∧ Aside0 (Below wa.heap.size wa W))
        case atStart => exact ⟨0, rfl, rfl, ⟨Nat.zero_le _, by omega⟩, ⟨fun j h => absurd h (Nat.not_lt_zero _)⟩, ⟨Below.refl _ _⟩⟩
        case round =>
          obtain ⟨i, rfl, rfl, HIQ, HA, HBn⟩ := hrel
          by_cases hlt : i < x.f2.length
          · have hi0 : (0 : Int) ≤ (i : Int) := by omega
            have hi1 : (i : Int) < (x.f2.length : Int) := by omega
            obtain ⟨ad, eA, y0, y1, y2⟩ := at_T126 (Kd.C_below HK.out.1 HBn.out) (i : Int) hi0 hi1
            subst eA
            rw [Int.toNat_natCast] at y0 y1 y2
            have hdec : decide ((i : Int) < (x.f2.length : Int)) = true := decide_eq_true hi1
            have hdec2 : decide (i < x.f2.length) = true := decide_eq_true hlt
            have HLT := Aside0.mk hlt
            have HLS : Aside0 (lastR x.f2 (i + 1) = (rd_T126 x.f2 (i : Int)).f0) := ⟨rfl⟩
            have HAN : Aside0 (∀ s la, s = (rd_T126 x.f2 (i : Int)).f0 → la = lastR x.f2 i → (s ≤ la ∨ s ≥ 60) → setsR (-1) x.f2 = false) := ⟨fun s la h1 h2 h3 => sets_no x.f2 i HLT.out (by rw [← h1, ← h2]; exact h3)⟩
            clear hlt
            generalize (rd_T126 x.f2 (i : Int)) = s at y0 y1 y2 HLS HAN
            have HAI : Aside0 (∀ la, la = lastR x.f2 i → la < s.f0 → s.f0 < 60 → ∀ j : Nat, j < i + 1 → lastR x.f2 j < (rd_T126 x.f2 (j : Int)).f0 ∧ (rd_T126 x.f2 (j : Int)).f0 < 60) := ⟨fun la e h1 h2 j hj => by
              by_cases e2 : j = i
              · subst e2; rw [← e]; have := HLS.out; show la < (lastR x.f2 (j + 1)) ∧ (lastR x.f2 (j + 1)) < 60; rw [this]; exact ⟨h1, h2⟩
              · exact HA.out j (by omega)⟩
            obtain ⟨la, hla⟩ : ∃ la, la = lastR x.f2 i := ⟨_, rfl⟩
            rw [← hla]
            have HLA := Aside0.mk hla
            clear hla
            by_cases h4 : s.f0 ≤ la
            · have H4 := Aside0.mk h4
              have d4 : decide (s.f0 ≤ la) = true := decide_eq_true h4
              have e4 : decide (la ≥ s.f0) = true := d4
              clear h4
              have HVV : Aside0 (r = false) := ⟨by rw [HV.out, if_pos (HAN.out _ la rfl HLA.out (.inl H4.out))]⟩
              go_wp2_with fail
              go_ret
              rw [HVV.out]
              exact ⟨rfl, below_step HB.out (below_alloc HBn.out _)⟩
            · have H4 := Aside0.mk h4
              have d4 : decide (s.f0 ≤ la) = false := decide_eq_false h4
              have e4 : decide (la ≥ s.f0) = false := d4
              clear h4
              by_cases h5 : 60 ≤ s.f0
              · have H5 := Aside0.mk h5
                have d5 : decide (60 ≤ s.f0) = true := decide_eq_true h5
                have e5 : decide (s.f0 ≥ 60) = true := d5
                clear h5
                have HVV : Aside0 (r = false) := ⟨by rw [HV.out, if_pos (HAN.out _ la rfl HLA.out (.inr H5.out))]⟩
                go_wp2_with fail
                go_ret
                rw [HVV.out]
                exact ⟨rfl, below_step HB.out (below_alloc HBn.out _)⟩
              · have H5 := Aside0.mk h5
                have d5 : decide (60 ≤ s.f0) = false := decide_eq_false h5
                have e5 : decide (s.f0 ≥ 60) = false := d5
                clear h5
                go_wp2_with fail
                go_roundg (x.f2.length - (i + 1))
                case measure => have := HIQ.out; have := HLT.out; omega
                case rel =>
                  refine ⟨i + 1, by first | rfl | (have := HLT.out; have := HZ.out.1; rw [show wrap64 ((i : Int) + 1) = ((i + 1 : Nat) : Int) from by unfold wrap64; omega]), by rw [HLS.out], ⟨by have := HLT.out; omega, rfl⟩, ⟨HAI.out la HLA.out (by have := H4.out; omega) (by have := H5.out; omega)⟩, ⟨below_alloc HBn.out _⟩⟩
          · have e_ : i = x.f2.length := by have := HIQ.out; omega
            subst e_
            have hdec : decide ((x.f2.length : Int) < (x.f2.length : Int)) = false := decide_eq_false (by omega)
            have hdec2 : decide (x.f2.length < x.f2.length) = false := decide_eq_false hlt
            have HS : Aside0 (setsR (-1) x.f2 = true) := ⟨sets_yes x.f2 HA.out⟩
            have HBb := Aside0.mk (below_step HB.out HBn.out)
            have HXb := Aside0.mk (blk_below HX.out HBn.out)
            have HNb := Aside0.mk (blk_below HN.out HBn.out)
            have HKb := Aside0.mk (And.intro (Kd.C_below HK.out.1 HBn.out) (Kd.C_below HK.out.2 HBn.out))
            clear hlt HIQ HA x0 x1 x2 x3 HB HX HN HK HBn
            have x3 := (blk_cell HXb.out 3).trans rfl
            go_wp2_with fail
            refine (anyM_calls 69 #[] badMk (Go.Proofs.enters_of Try.func69 (by kernel_rfl) rfl) _ A3 c3 x.f3 HKb.out.2 (fun W hW m hm A c hC hc => formed1_calls W m A c) HZ.out.2).mono ?_
            rintro e w4 ⟨rfl, hb4⟩
            have HB4 := Aside0.mk (below_step HBb.out hb4)
            have HX4 := Aside0.mk (blk_below HXb.out hb4)
            have HN4 := Aside0.mk (blk_below HNb.out hb4)
            have HK4 := Aside0.mk (And.intro (Kd.C_below HKb.out.1 hb4) (Kd.C_below HKb.out.2 hb4))
            clear hb4 HBb HXb HNb HKb x3
            cases ha : x.f3.any badMk with
            | true =>
              have HVV : Aside0 (r = false) := ⟨by rw [HV.out, if_neg (by rw [HS.out]; decide), if_pos ha]⟩
              clear ha
              go_wp2_with fail
              go_ret
              rw [HVV.out]
              exact ⟨rfl, HB4.out⟩
            | false =>
              have HV2 : Aside0 (r = !(placesL x).any (badPl n)) := ⟨by rw [HV.out, if_neg (by rw [HS.out]; decide), if_neg (by rw [ha]; decide)]⟩
              clear HV ha
              have x0 := (blk_cell HX4.out 0).trans rfl
              have x1 := (blk_cell HX4.out 1).trans rfl
              have x2 := (blk_cell HX4.out 2).trans rfl
              have x3 := (blk_cell HX4.out 3).trans rfl
              go_wp2_with fail
              refine (order_Places.calls KP x.f0 x.f1 A2 c2 x.f2 A3 c3 x.f3 (placesL x) _ HK4.out.1 HC.out.1 HK4.out.2 HC.out.2 HKP.out).mono ?_
              rintro e w5 ⟨v, rfl, hRP, hb5⟩
              obtain ⟨AP, cp, rfl⟩ := Kd.R_slice hRP
              have HRC := Aside0.mk (Kd.R_reads' hRP).2.2
              have HB5 := Aside0.mk (below_step HB4.out hb5)
              have HN5 := Aside0.mk (blk_below HN4.out hb5)
              clear hRP hb5 HB4 HX4 HN4 HK4 x0 x1 x2 x3
              go_wp2_with fail
              refine (anyP_calls 70 #[.pointer (some ⟨w.heap.size + 1, 0, none⟩)] (badPl n) (Go.Proofs.enters_of Try.func70 (by kernel_rfl) rfl) _ AP cp (placesL x) HRC.out (fun W hW p hp => formed2_calls W p n _ (blk_below HN5.out hW)) HPL.out).mono ?_
              rintro e w6 ⟨rfl, hb6⟩
              have HB6 := Aside0.mk (below_step HB5.out hb6)
              clear hb6
              go_wp2_with fail
              go_ret
              rw [HV2.out]
              exact ⟨rfl, HB6.out⟩
end Go.Proofs.Ytecaemebamhamaa.Lv
