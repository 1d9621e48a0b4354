/- Package live walked: the closure of Spans. -/
import Derived.Test.YtchcbncelckgeaaLvRp
set_option linter.unusedVariables false
set_option linter.unusedSimpArgs false
namespace Go.Proofs.Ytchcbncelckgeaa.Lv
open Go.RowKit Go.Proofs.YtchcbncelckgeaaW.PrintWords Go.Proofs.YtchcbncelckgeaaW.PrintLast Go.Proofs.YtchcbncelckgeaaW.PrintMore Go.Proofs.Ytchcbncelckgeaa.PZ Go.Proofs.Ytchcbncelckgeaa.Hnd Go.Lib
attribute [local go_sem] max2_int min2_int max_two min_two max_three min_three max_four min_four

/-- A span is asked at a place. -/
def toS (lp n at_ v : Int) : Int := if v < lp then (if lp ≤ at_ then n else at_) else at_
def stepS (lp n at_ : Int) (o : List SP) (v : Int) : List SP := o.set v.toNat ⟨v, mx (rd_T105 o v).f1 (toS lp n at_ v)⟩
def askS (lp n at_ : Int) (o : List SP) (l : List Int) : List SP := l.foldl (stepS lp n at_) o
theorem stepS_len (lp n at_ : Int) (o : List SP) (v : Int) : (stepS lp n at_ o v).length = o.length := by unfold stepS; rw [List.length_set]
theorem askS_len (lp n at_ : Int) (l : List Int) : ∀ o : List SP, (askS lp n at_ o l).length = o.length := by
  unfold askS
  induction l with
  | nil => intro o; rfl
  | cons v l ih => intro o; rw [List.foldl_cons, ih, stepS_len]
def cellsS (o : List SP) : List Value := o.flatMap (fun s => [.int .i64 s.f0, .int .i64 s.f1])
theorem cellsS_len (o : List SP) : (cellsS o).length = 2 * o.length := by
  unfold cellsS
  induction o with
  | nil => rfl
  | cons s o ih => rw [List.flatMap_cons, List.length_append, ih]; simp; omega
theorem cellsS_get : ∀ (o : List SP) (i : Nat) (h : i < o.length), (cellsS o)[2 * i]? = some (.int .i64 o[i].f0) ∧ (cellsS o)[2 * i + 1]? = some (.int .i64 o[i].f1)
  | [], i, h => absurd h (Nat.not_lt_zero _)
  | s :: o, 0, h => ⟨rfl, rfl⟩
  | s :: o, i + 1, h => by
    have ih := cellsS_get o i (by simpa using h)
    have e1 : 2 * (i + 1) = (2 * i + 1) + 1 := by omega
    have e2 : 2 * (i + 1) + 1 = (2 * i + 1 + 1) + 1 := by omega
    rw [e1]
    unfold cellsS at ih ⊢
    rw [List.flatMap_cons]
    simpa using ih
theorem cellsS_set : ∀ (o : List SP) (i : Nat) (a b : Int), i < o.length → ((cellsS o).set (2 * i) (.int .i64 a)).set (2 * i + 1) (.int .i64 b) = cellsS (o.set i ⟨a, b⟩)
  | [], i, _, _, h => absurd h (Nat.not_lt_zero _)
  | s :: o, 0, a, b, h => rfl
  | s :: o, i + 1, a, b, h => by
    have ih := cellsS_set o i a b (by simpa using h)
    have e1 : 2 * (i + 1) = (2 * i + 1) + 1 := by omega
    rw [e1]
    unfold cellsS at ih ⊢
    rw [List.flatMap_cons, List.set_cons_succ, List.flatMap_cons, ← ih]
    rfl
theorem cellsS_rep (n : Nat) : cellsS (List.replicate n ⟨-1, -1⟩) = cellK (2 * n) (2 * n) := by
  unfold cellsS cellK rowK
  induction n with
  | zero => rfl
  | succ n ih =>
    rw [List.replicate_succ, List.flatMap_cons, ih, show 2 * (n + 1) = (2 * n + 1) + 1 from by omega]
    simp [List.replicate_succ]
/-- All is as it was, but for one block. -/
structure Kb (b : Nat) (w w' : World) : Prop where
  below : Below b w w'
  keep : ∀ k, k < w.heap.size → k ≠ b → w'.heap[k]? = w.heap[k]?
theorem Kb.refl (b : Nat) (w : World) : Kb b w w := ⟨Below.refl _ _, fun _ _ _ => rfl⟩
theorem Kb.trans {b : Nat} {w w1 w2 : World} (h : Kb b w w1) (h2 : Kb b w1 w2) : Kb b w w2 := ⟨h.below.trans h2.below, fun k hk hne => (h2.keep k (Nat.lt_of_lt_of_le hk h.below.size) hne).trans (h.keep k hk hne)⟩
theorem Kb.of_below {b : Nat} {w w1 : World} (h : Below w.heap.size w w1) (hb : b < w.heap.size) : Kb b w w1 := ⟨below_cut h (Nat.le_of_lt hb), fun k hk _ => h.block k hk⟩
theorem Kb.blk {b g : Nat} {w w1 : World} {o : Obj} (h : Kb b w w1) (hg : w.heap[g]? = some o) (hne : g ≠ b) : w1.heap[g]? = some o := (h.keep g (blk_lt hg) hne).trans hg
set_option maxHeartbeats 16000000 in
set_option maxRecDepth 100000 in
theorem ask_calls (w : World) {A3 : Option Addr} {c3 : Nat} {A4 : Option Addr} {c4 : Nat} {A7 : Option Addr} {c7 : Nat} {A8 : Option Addr} {c8 : Nat} {A11 : Option Addr} {c11 : Nat} {A12 : Option Addr} {c12 : Nat} (t : TT) (b1 b5 b6 b2 : Nat) (o : List SP) (at_ : Int) (A : Option Addr) (c : Nat) (l : List Int)
    (h1 : w.heap[b1]? = some (.cells #[.int .i64 t.f0, .int .i64 t.f1, .int .i64 t.f2, .slice A3 t.f3.length c3, .slice A4 t.f4.length c4, .int .i64 t.f5.f0, .int .i64 t.f5.f1, .slice A7 t.f5.f2.length c7, .slice A8 t.f5.f3.length c8, .int .i64 t.f6.f0, .int .i64 t.f6.f1, .slice A11 t.f6.f2.length c11, .slice A12 t.f6.f3.length c12] 97 (0, 0))) (h5 : w.heap[b5]? = some (.cells #[.int .i64 (o.length : Int)] 3 (0, 0))) (h6 : w.heap[b6]? = some (.cells #[.slice (some ⟨b2, 0, none⟩) o.length o.length] 98 (0, 0))) (h2 : w.heap[b2]? = some (.cells (cellsS o).toArray 105 (0, 0)))
    (hl : (Kd.int .i64).F w (fun k => k ≠ b2) A l.length l) (hz : l.length ≤ 2000000) (hv : ∀ v ∈ l, 0 ≤ v ∧ v < (o.length : Int)) :
    Calls Try.prog 63 #[.int .i64 at_, .slice A l.length c, .pointer (some ⟨b1, 0, none⟩), .pointer (some ⟨b5, 0, none⟩), .pointer (some ⟨b6, 0, none⟩)] w fun e w' => e = .returned (.tuple #[]) ∧ w'.heap[b2]? = some (.cells (cellsS (askS t.f2 (o.length : Int) at_ o l)).toArray 105 (0, 0)) ∧ Kb b2 w w' := by
  have hn1 : b1 ≠ b2 := fun e => by rw [e, h2] at h1; injection h1 with h1; injection h1 with _ h1; exact absurd h1 (by decide)
  have hn5 : b5 ≠ b2 := fun e => by rw [e, h2] at h5; injection h5 with h5; injection h5 with _ h5; exact absurd h5 (by decide)
  have hn6 : b6 ≠ b2 := fun e => by rw [e, h2] at h6; injection h6 with h6; injection h6 with _ h6; exact absurd h6 (by decide)
  have H1 := Aside0.mk h1
  have H5 := Aside0.mk h5
  have H6 := Aside0.mk h6
  have HNE := Aside0.mk (And.intro hn1 (And.intro hn5 hn6))
  have HL := Aside0.mk hl
  have HZ := Aside0.mk hz
  have HV := Aside0.mk hv
  have H2 := Aside0.mk h2
  clear h1 h5 h6 h2 hn1 hn5 hn6 hl hz hv
  go_enter Try.func63, Try.ntmps63
  go_wp2_with fail
  go_loopg [12] l.length (fun kq v12 W => ∃ i : Nat, v12 = .int .i64 (i : Int) ∧ Aside0 (i ≤ l.length ∧ kq = l.length - i) ∧ Aside0 (W.heap[b2]? = some (.cells (cellsS (askS t.f2 (o.length : Int) at_ o (l.take i))).toArray 105 (0, 0))) ∧ Aside0 (Kb b2 w W))
  case atStart => exact ⟨0, rfl, ⟨Nat.zero_le _, by omega⟩, H2, ⟨Kb.refl _ _⟩⟩
  case round =>
    obtain ⟨i, rfl, HIQ, HS, HK⟩ := hrel
    by_cases hlt : i < l.length
    · have hi0 : (0 : Int) ≤ (i : Int) := by omega
      have hi1 : (i : Int) < (l.length : Int) := by omega
      obtain ⟨ad, e, hx⟩ := Kd.at_int (Kd.F_now (Kd.F_step HL.out (fun k hk hlt => HK.out.keep k hlt hk))) (i : Int) (by omega) (by omega)
      rw [Int.toNat_natCast, rdI hlt] at hx
      subst e
      have hdec : decide ((i : Int) < (l.length : Int)) = true := decide_eq_true hi1
      have hdec2 : decide (i < l.length) = true := decide_eq_true hlt
      have HLT := Aside0.mk hlt
      have HW64 : Aside0 (wrap64 ((i : Int) + 1) = ((i + 1 : Nat) : Int)) := ⟨by have := HZ.out; unfold wrap64; omega⟩
      have hvv := HV.out l[i] (List.getElem_mem hlt)
      have HTK : Aside0 (askS t.f2 (o.length : Int) at_ o (l.take (i + 1)) = stepS t.f2 (o.length : Int) at_ (askS t.f2 (o.length : Int) at_ o (l.take i)) l[i]) := ⟨by rw [List.take_succ_eq_append_getElem hlt]; unfold askS; rw [List.foldl_append]; rfl⟩
      obtain ⟨v, hv⟩ : ∃ v, v = l[i] := ⟨_, rfl⟩
      rw [← hv] at hx hvv HTK
      obtain ⟨q, hq⟩ : ∃ q, q = askS t.f2 (o.length : Int) at_ o (l.take i) := ⟨_, rfl⟩
      have HQL : Aside0 (q.length = o.length) := ⟨by rw [hq, askS_len]⟩
      rw [← hq] at HTK HS
      have hvl : v.toNat < q.length := by rw [HQL.out]; omega
      have p0 : (0 : Int) ≤ v := hvv.1
      have p1 : v < (o.length : Int) := hvv.2
      have HVL := Aside0.mk hvl
      have hcg := cellsS_get q v.toNat hvl
      have hrd : (rd_T105 q v) = q[v.toNat] := by unfold rd_T105; rw [List.getD_eq_getElem?_getD, List.getElem?_eq_getElem hvl]; rfl
      have k2 := (blk_cell (HK.out.blk H1.out HNE.out.1) 2).trans rfl
      have k5 := (blk_cell (HK.out.blk H5.out HNE.out.2.1) 0).trans rfl
      have k6 := (blk_cell (HK.out.blk H6.out HNE.out.2.2) 0).trans rfl
      rw [← hrd] at hcg
      have HCG := Aside0.mk hcg
      clear hv hq hvv hvl hrd hcg hlt
      by_cases hc1 : v < t.f2
      · have hd1 : decide (v < t.f2) = true := decide_eq_true hc1
        by_cases hc2 : t.f2 ≤ at_
        · have hd2 : decide (t.f2 ≤ at_) = true := decide_eq_true hc2
          have HTO : Aside0 (toS t.f2 (o.length : Int) at_ v = (o.length : Int)) := ⟨by unfold toS; rw [if_pos hc1, if_pos hc2]⟩
          clear hc1 hc2
          go_wp2_with fail
          have HSd : Aside0 (wr.drew.heap[b2]? = some (.cells (cellsS q).toArray 105 (0, 0))) := ⟨HS.out⟩
          have c0d : wr.drew.cell? ⟨b2, v.toNat * 2, none⟩ = some (.int .i64 (rd_T105 q v).f0) := by rw [blk_cell HSd.out, Nat.mul_comm]; simpa using HCG.out.1
          have c1d : wr.drew.cell? ⟨b2, v.toNat * 2 + 1, none⟩ = some (.int .i64 (rd_T105 q v).f1) := by rw [blk_cell HSd.out, Nat.mul_comm]; simpa using HCG.out.2
          have u1 := c1d
          have HKd : Aside0 (Kb b2 w wr.drew) := ⟨HK.out.trans ⟨below_drew (Below.refl b2 wr), fun _ _ _ => rfl⟩⟩
          refine start_ (n := 13) (S := fun w' => w'.cell? ⟨b6, 0, none⟩ = some (.slice (some ⟨b2, 0, none⟩) o.length o.length) ∧ w'.cell? ⟨b2, v.toNat * 2 + 1, none⟩ = some (.int .i64 (rd_T105 q v).f1)) (ds := [12]) #[false, false, false, false, false, false, false, false, false, false, false, false, false] (by kernel_rfl) rfl rfl ⟨k6, u1⟩ (fun hHeld => ?_)
          generalize wr.drew = wd at hHeld HSd HKd c0d c1d ⊢
          refine pure_ (i := 1) (N := some 29) (v := ?_) (a' := ?_) #[false, true, false, false, false, false, false, false, false, false, false, false, false] rfl rfl (by kernel_rfl) (fun _ _ _ h => h) (Or.inl ⟨by rfl, ?_⟩) ?_ ?_
          rotate_left
          · intro w'
            go_simp
            with_reducible rfl
          rotate_left
          · simp only [Act.put, List.setIfInBounds_toArray, List.set_cons_zero, List.set_cons_succ, i64_w, i32_w]
            rfl
          refine pure_ (i := 2) (N := some 30) (v := ?_) (a' := ?_) #[false, true, true, false, false, false, false, false, false, false, false, false, false] rfl rfl (by kernel_rfl) (fun _ _ _ h => h) (Or.inl ⟨by rfl, ?_⟩) ?_ ?_
          rotate_left
          · intro w'
            go_simp
            with_reducible rfl
          rotate_left
          · simp only [Act.put, List.setIfInBounds_toArray, List.set_cons_zero, List.set_cons_succ, i64_w, i32_w]
            rfl
          refine pure_ (i := 4) (N := some 32) (v := ?_) (a' := ?_) #[false, true, true, false, true, false, false, false, false, false, false, false, false] rfl rfl (by kernel_rfl) (fun _ _ _ h => h) (Or.inl ⟨by rfl, ?_⟩) ?_ ?_
          rotate_left
          · intro w'
            go_simp
            with_reducible rfl
          rotate_left
          · simp only [Act.put, List.setIfInBounds_toArray, List.set_cons_zero, List.set_cons_succ, i64_w, i32_w]
            rfl
          refine pure_ (i := 8) (N := some 36) (v := ?_) (a' := ?_) #[false, true, true, false, true, false, false, false, true, false, false, false, false] rfl rfl (by kernel_rfl) (fun _ _ _ h => h) (Or.inl ⟨by rfl, ?_⟩) ?_ ?_
          rotate_left
          · intro w'
            go_simp
            with_reducible rfl
          rotate_left
          · simp only [Act.put, List.setIfInBounds_toArray, List.set_cons_zero, List.set_cons_succ, i64_w, i32_w]
            rfl
          refine take_ (i := 0) (N := some 28) (v := ?_) (a' := ?_) #[true, true, true, false, true, false, false, false, true, false, false, false, false] rfl rfl (by kernel_rfl) (fun _ _ _ h => h) (Or.inl ⟨by rfl, ?_⟩) hHeld ?_ ?_
          rotate_left
          · rintro w' ⟨s0, s1⟩
            go_simp
            with_reducible rfl
          rotate_left
          · simp only [Act.put, List.setIfInBounds_toArray, List.set_cons_zero, List.set_cons_succ, i64_w, i32_w]
            rfl
          refine take_ (i := 3) (N := some 31) (v := ?_) (a' := ?_) #[true, true, true, true, true, false, false, false, true, false, false, false, false] rfl rfl (by kernel_rfl) (fun _ _ _ h => h) (Or.inl ⟨by rfl, ?_⟩) hHeld ?_ ?_
          rotate_left
          · rintro w' ⟨s0, s1⟩
            go_simp
            with_reducible rfl
          rotate_left
          · simp only [Act.put, List.setIfInBounds_toArray, List.set_cons_zero, List.set_cons_succ, i64_w, i32_w]
            rfl
          refine pure_ (i := 5) (N := some 33) (v := ?_) (a' := ?_) #[true, true, true, true, true, true, false, false, true, false, false, false, false] rfl rfl (by kernel_rfl) (fun _ _ _ h => h) (Or.inl ⟨by rfl, ?_⟩) ?_ ?_
          rotate_left
          · intro w'
            go_simp
            with_reducible rfl
          rotate_left
          · simp only [Act.put, List.setIfInBounds_toArray, List.set_cons_zero, List.set_cons_succ, i64_w, i32_w]
            rfl
          refine pure_ (i := 6) (N := some 34) (v := ?_) (a' := ?_) #[true, true, true, true, true, true, true, false, true, false, false, false, false] rfl rfl (by kernel_rfl) (fun _ _ _ h => h) (Or.inl ⟨by rfl, ?_⟩) ?_ ?_
          rotate_left
          · intro w'
            go_simp
            with_reducible rfl
          rotate_left
          · simp only [Act.put, List.setIfInBounds_toArray, List.set_cons_zero, List.set_cons_succ, i64_w, i32_w]
            rfl
          refine take_ (i := 7) (N := some 35) (v := ?_) (a' := ?_) #[true, true, true, true, true, true, true, true, true, false, false, false, false] rfl rfl (by kernel_rfl) (fun _ _ _ h => h) (Or.inl ⟨by rfl, ?_⟩) hHeld ?_ ?_
          rotate_left
          · rintro w' ⟨s0, s1⟩
            go_simp
            with_reducible rfl
          rotate_left
          · simp only [Act.put, List.setIfInBounds_toArray, List.set_cons_zero, List.set_cons_succ, i64_w, i32_w]
            rfl
          refine pure_ (i := 9) (N := some 37) (v := ?_) (a' := ?_) #[true, true, true, true, true, true, true, true, true, true, false, false, false] rfl rfl (by kernel_rfl) (fun _ _ _ h => h) (Or.inl ⟨by rfl, ?_⟩) ?_ ?_
          rotate_left
          · intro w'
            go_simp
            with_reducible rfl
          rotate_left
          · simp only [Act.put, List.setIfInBounds_toArray, List.set_cons_zero, List.set_cons_succ, i64_w, i32_w]
            rfl
          refine pure_ (i := 10) (N := some 38) (v := ?_) (a' := ?_) #[true, true, true, true, true, true, true, true, true, true, true, false, false] rfl rfl (by kernel_rfl) (fun _ _ _ h => h) (Or.inl ⟨by rfl, ?_⟩) ?_ ?_
          rotate_left
          · intro w'
            go_simp
            with_reducible rfl
          rotate_left
          · simp only [Act.put, List.setIfInBounds_toArray, List.set_cons_zero, List.set_cons_succ, i64_w, i32_w]
            rfl
          refine pure_ (i := 11) (N := some 39) (v := ?_) (a' := ?_) #[true, true, true, true, true, true, true, true, true, true, true, true, false] rfl rfl (by kernel_rfl) (fun _ _ _ h => h) (Or.inl ⟨by rfl, ?_⟩) ?_ ?_
          rotate_left
          · intro w'
            go_simp
            with_reducible rfl
          rotate_left
          · simp only [Act.put, List.setIfInBounds_toArray, List.set_cons_zero, List.set_cons_succ, i64_w, i32_w]
            rfl
          refine last_ (i := 12) (N := none) #[true, true, true, true, true, true, true, true, true, true, true, true, true] rfl rfl (by kernel_rfl) (by decide) (fun K hK => ?_)
          have hf0 := blk_frozen HSd.out (v.toNat * 2)
          have hf1 := blk_frozen HSd.out (v.toNat * 2 + 1)
          have hc0 := c0d
          have hc1 := c1d
          refine skip_ (w1 := ?_) (by rfl) rfl ?_ ?_
          rotate_left
          · go_simp
            rfl
          refine hK.out _ _ ?_
          clear hK K
          refine done_ (by kernel_rfl) ?_
          generalize hwz : World.setCell (World.setCell wd _ _) _ _ = wz
          have HSz : Aside0 (wz.heap[b2]? = some (.cells (cellsS (stepS t.f2 (o.length : Int) at_ q v)).toArray 105 (0, 0))) := ⟨by
            rw [← hwz]
            have h_ := blk_set (blk_set HSd.out (v.toNat * 2) (.int .i64 v)) (v.toNat * 2 + 1) (.int .i64 (mx (rd_T105 q v).f1 (toS t.f2 (o.length : Int) at_ v)))
            have e_ := cellsS_set q v.toNat v (mx (rd_T105 q v).f1 (toS t.f2 (o.length : Int) at_ v)) HVL.out
            rw [HTO.out] at h_ e_
            unfold stepS
            rw [HTO.out, ← e_, Nat.mul_comm 2 v.toNat]
            simpa [mx] using h_⟩
          have HKz : Aside0 (Kb b2 w wz) := ⟨HKd.out.trans ⟨by
            rw [← hwz]
            exact ((Below.refl b2 wd).setCell (p := ⟨b2, v.toNat * 2, none⟩) (Nat.le_refl _) _).setCell (p := ⟨b2, v.toNat * 2 + 1, none⟩) (Nat.le_refl _) _, fun k hk hne => by
            rw [← hwz]
            exact (heap_setCell_other _ _ k _ hne).trans (heap_setCell_other wd _ k _ hne)⟩⟩
          clear hwz k2 k5 k6 hx c0d c1d u1 HK HKd HSd
          generalize (if (rd_T105 q v).f1 < (o.length : Int) then (o.length : Int) else (rd_T105 q v).f1) = mxv
          try clear hf0 hf1 hc0 hc1
          go_wp2_with fail
          go_roundg (l.length - (i + 1))
          case measure => have := HIQ.out; have := HLT.out; omega
          case rel => exact ⟨i + 1, by first | rfl | rw [HW64.out], ⟨by have := HLT.out; omega, rfl⟩, ⟨by rw [HTK.out]; exact HSz.out⟩, HKz⟩
        · have hd2 : decide (t.f2 ≤ at_) = false := decide_eq_false hc2
          have HTO : Aside0 (toS t.f2 (o.length : Int) at_ v = at_) := ⟨by unfold toS; rw [if_pos hc1, if_neg hc2]⟩
          clear hc1 hc2
          go_wp2_with fail
          have HSd : Aside0 (wr.drew.heap[b2]? = some (.cells (cellsS q).toArray 105 (0, 0))) := ⟨HS.out⟩
          have c0d : wr.drew.cell? ⟨b2, v.toNat * 2, none⟩ = some (.int .i64 (rd_T105 q v).f0) := by rw [blk_cell HSd.out, Nat.mul_comm]; simpa using HCG.out.1
          have c1d : wr.drew.cell? ⟨b2, v.toNat * 2 + 1, none⟩ = some (.int .i64 (rd_T105 q v).f1) := by rw [blk_cell HSd.out, Nat.mul_comm]; simpa using HCG.out.2
          have u1 := c1d
          have HKd : Aside0 (Kb b2 w wr.drew) := ⟨HK.out.trans ⟨below_drew (Below.refl b2 wr), fun _ _ _ => rfl⟩⟩
          refine start_ (n := 13) (S := fun w' => w'.cell? ⟨b6, 0, none⟩ = some (.slice (some ⟨b2, 0, none⟩) o.length o.length) ∧ w'.cell? ⟨b2, v.toNat * 2 + 1, none⟩ = some (.int .i64 (rd_T105 q v).f1)) (ds := [12]) #[false, false, false, false, false, false, false, false, false, false, false, false, false] (by kernel_rfl) rfl rfl ⟨k6, u1⟩ (fun hHeld => ?_)
          generalize wr.drew = wd at hHeld HSd HKd c0d c1d ⊢
          refine pure_ (i := 1) (N := some 29) (v := ?_) (a' := ?_) #[false, true, false, false, false, false, false, false, false, false, false, false, false] rfl rfl (by kernel_rfl) (fun _ _ _ h => h) (Or.inl ⟨by rfl, ?_⟩) ?_ ?_
          rotate_left
          · intro w'
            go_simp
            with_reducible rfl
          rotate_left
          · simp only [Act.put, List.setIfInBounds_toArray, List.set_cons_zero, List.set_cons_succ, i64_w, i32_w]
            rfl
          refine pure_ (i := 2) (N := some 30) (v := ?_) (a' := ?_) #[false, true, true, false, false, false, false, false, false, false, false, false, false] rfl rfl (by kernel_rfl) (fun _ _ _ h => h) (Or.inl ⟨by rfl, ?_⟩) ?_ ?_
          rotate_left
          · intro w'
            go_simp
            with_reducible rfl
          rotate_left
          · simp only [Act.put, List.setIfInBounds_toArray, List.set_cons_zero, List.set_cons_succ, i64_w, i32_w]
            rfl
          refine pure_ (i := 4) (N := some 32) (v := ?_) (a' := ?_) #[false, true, true, false, true, false, false, false, false, false, false, false, false] rfl rfl (by kernel_rfl) (fun _ _ _ h => h) (Or.inl ⟨by rfl, ?_⟩) ?_ ?_
          rotate_left
          · intro w'
            go_simp
            with_reducible rfl
          rotate_left
          · simp only [Act.put, List.setIfInBounds_toArray, List.set_cons_zero, List.set_cons_succ, i64_w, i32_w]
            rfl
          refine pure_ (i := 8) (N := some 36) (v := ?_) (a' := ?_) #[false, true, true, false, true, false, false, false, true, false, false, false, false] rfl rfl (by kernel_rfl) (fun _ _ _ h => h) (Or.inl ⟨by rfl, ?_⟩) ?_ ?_
          rotate_left
          · intro w'
            go_simp
            with_reducible rfl
          rotate_left
          · simp only [Act.put, List.setIfInBounds_toArray, List.set_cons_zero, List.set_cons_succ, i64_w, i32_w]
            rfl
          refine take_ (i := 0) (N := some 28) (v := ?_) (a' := ?_) #[true, true, true, false, true, false, false, false, true, false, false, false, false] rfl rfl (by kernel_rfl) (fun _ _ _ h => h) (Or.inl ⟨by rfl, ?_⟩) hHeld ?_ ?_
          rotate_left
          · rintro w' ⟨s0, s1⟩
            go_simp
            with_reducible rfl
          rotate_left
          · simp only [Act.put, List.setIfInBounds_toArray, List.set_cons_zero, List.set_cons_succ, i64_w, i32_w]
            rfl
          refine take_ (i := 3) (N := some 31) (v := ?_) (a' := ?_) #[true, true, true, true, true, false, false, false, true, false, false, false, false] rfl rfl (by kernel_rfl) (fun _ _ _ h => h) (Or.inl ⟨by rfl, ?_⟩) hHeld ?_ ?_
          rotate_left
          · rintro w' ⟨s0, s1⟩
            go_simp
            with_reducible rfl
          rotate_left
          · simp only [Act.put, List.setIfInBounds_toArray, List.set_cons_zero, List.set_cons_succ, i64_w, i32_w]
            rfl
          refine pure_ (i := 5) (N := some 33) (v := ?_) (a' := ?_) #[true, true, true, true, true, true, false, false, true, false, false, false, false] rfl rfl (by kernel_rfl) (fun _ _ _ h => h) (Or.inl ⟨by rfl, ?_⟩) ?_ ?_
          rotate_left
          · intro w'
            go_simp
            with_reducible rfl
          rotate_left
          · simp only [Act.put, List.setIfInBounds_toArray, List.set_cons_zero, List.set_cons_succ, i64_w, i32_w]
            rfl
          refine pure_ (i := 6) (N := some 34) (v := ?_) (a' := ?_) #[true, true, true, true, true, true, true, false, true, false, false, false, false] rfl rfl (by kernel_rfl) (fun _ _ _ h => h) (Or.inl ⟨by rfl, ?_⟩) ?_ ?_
          rotate_left
          · intro w'
            go_simp
            with_reducible rfl
          rotate_left
          · simp only [Act.put, List.setIfInBounds_toArray, List.set_cons_zero, List.set_cons_succ, i64_w, i32_w]
            rfl
          refine take_ (i := 7) (N := some 35) (v := ?_) (a' := ?_) #[true, true, true, true, true, true, true, true, true, false, false, false, false] rfl rfl (by kernel_rfl) (fun _ _ _ h => h) (Or.inl ⟨by rfl, ?_⟩) hHeld ?_ ?_
          rotate_left
          · rintro w' ⟨s0, s1⟩
            go_simp
            with_reducible rfl
          rotate_left
          · simp only [Act.put, List.setIfInBounds_toArray, List.set_cons_zero, List.set_cons_succ, i64_w, i32_w]
            rfl
          refine pure_ (i := 9) (N := some 37) (v := ?_) (a' := ?_) #[true, true, true, true, true, true, true, true, true, true, false, false, false] rfl rfl (by kernel_rfl) (fun _ _ _ h => h) (Or.inl ⟨by rfl, ?_⟩) ?_ ?_
          rotate_left
          · intro w'
            go_simp
            with_reducible rfl
          rotate_left
          · simp only [Act.put, List.setIfInBounds_toArray, List.set_cons_zero, List.set_cons_succ, i64_w, i32_w]
            rfl
          refine pure_ (i := 10) (N := some 38) (v := ?_) (a' := ?_) #[true, true, true, true, true, true, true, true, true, true, true, false, false] rfl rfl (by kernel_rfl) (fun _ _ _ h => h) (Or.inl ⟨by rfl, ?_⟩) ?_ ?_
          rotate_left
          · intro w'
            go_simp
            with_reducible rfl
          rotate_left
          · simp only [Act.put, List.setIfInBounds_toArray, List.set_cons_zero, List.set_cons_succ, i64_w, i32_w]
            rfl
          refine pure_ (i := 11) (N := some 39) (v := ?_) (a' := ?_) #[true, true, true, true, true, true, true, true, true, true, true, true, false] rfl rfl (by kernel_rfl) (fun _ _ _ h => h) (Or.inl ⟨by rfl, ?_⟩) ?_ ?_
          rotate_left
          · intro w'
            go_simp
            with_reducible rfl
          rotate_left
          · simp only [Act.put, List.setIfInBounds_toArray, List.set_cons_zero, List.set_cons_succ, i64_w, i32_w]
            rfl
          refine last_ (i := 12) (N := none) #[true, true, true, true, true, true, true, true, true, true, true, true, true] rfl rfl (by kernel_rfl) (by decide) (fun K hK => ?_)
          have hf0 := blk_frozen HSd.out (v.toNat * 2)
          have hf1 := blk_frozen HSd.out (v.toNat * 2 + 1)
          have hc0 := c0d
          have hc1 := c1d
          refine skip_ (w1 := ?_) (by rfl) rfl ?_ ?_
          rotate_left
          · go_simp
            rfl
          refine hK.out _ _ ?_
          clear hK K
          refine done_ (by kernel_rfl) ?_
          generalize hwz : World.setCell (World.setCell wd _ _) _ _ = wz
          have HSz : Aside0 (wz.heap[b2]? = some (.cells (cellsS (stepS t.f2 (o.length : Int) at_ q v)).toArray 105 (0, 0))) := ⟨by
            rw [← hwz]
            have h_ := blk_set (blk_set HSd.out (v.toNat * 2) (.int .i64 v)) (v.toNat * 2 + 1) (.int .i64 (mx (rd_T105 q v).f1 (toS t.f2 (o.length : Int) at_ v)))
            have e_ := cellsS_set q v.toNat v (mx (rd_T105 q v).f1 (toS t.f2 (o.length : Int) at_ v)) HVL.out
            rw [HTO.out] at h_ e_
            unfold stepS
            rw [HTO.out, ← e_, Nat.mul_comm 2 v.toNat]
            simpa [mx] using h_⟩
          have HKz : Aside0 (Kb b2 w wz) := ⟨HKd.out.trans ⟨by
            rw [← hwz]
            exact ((Below.refl b2 wd).setCell (p := ⟨b2, v.toNat * 2, none⟩) (Nat.le_refl _) _).setCell (p := ⟨b2, v.toNat * 2 + 1, none⟩) (Nat.le_refl _) _, fun k hk hne => by
            rw [← hwz]
            exact (heap_setCell_other _ _ k _ hne).trans (heap_setCell_other wd _ k _ hne)⟩⟩
          clear hwz k2 k5 k6 hx c0d c1d u1 HK HKd HSd
          generalize (if (rd_T105 q v).f1 < at_ then at_ else (rd_T105 q v).f1) = mxv
          try clear hf0 hf1 hc0 hc1
          go_wp2_with fail
          go_roundg (l.length - (i + 1))
          case measure => have := HIQ.out; have := HLT.out; omega
          case rel => exact ⟨i + 1, by first | rfl | rw [HW64.out], ⟨by have := HLT.out; omega, rfl⟩, ⟨by rw [HTK.out]; exact HSz.out⟩, HKz⟩
      · have hd1 : decide (v < t.f2) = false := decide_eq_false hc1
        have HTO : Aside0 (toS t.f2 (o.length : Int) at_ v = at_) := ⟨by unfold toS; rw [if_neg hc1]⟩
        clear hc1
        go_wp2_with fail
        have HSd : Aside0 (wr.drew.heap[b2]? = some (.cells (cellsS q).toArray 105 (0, 0))) := ⟨HS.out⟩
        have c0d : wr.drew.cell? ⟨b2, v.toNat * 2, none⟩ = some (.int .i64 (rd_T105 q v).f0) := by rw [blk_cell HSd.out, Nat.mul_comm]; simpa using HCG.out.1
        have c1d : wr.drew.cell? ⟨b2, v.toNat * 2 + 1, none⟩ = some (.int .i64 (rd_T105 q v).f1) := by rw [blk_cell HSd.out, Nat.mul_comm]; simpa using HCG.out.2
        have u1 := c1d
        have HKd : Aside0 (Kb b2 w wr.drew) := ⟨HK.out.trans ⟨below_drew (Below.refl b2 wr), fun _ _ _ => rfl⟩⟩
        refine start_ (n := 13) (S := fun w' => w'.cell? ⟨b6, 0, none⟩ = some (.slice (some ⟨b2, 0, none⟩) o.length o.length) ∧ w'.cell? ⟨b2, v.toNat * 2 + 1, none⟩ = some (.int .i64 (rd_T105 q v).f1)) (ds := [12]) #[false, false, false, false, false, false, false, false, false, false, false, false, false] (by kernel_rfl) rfl rfl ⟨k6, u1⟩ (fun hHeld => ?_)
        generalize wr.drew = wd at hHeld HSd HKd c0d c1d ⊢
        refine pure_ (i := 1) (N := some 29) (v := ?_) (a' := ?_) #[false, true, false, false, false, false, false, false, false, false, false, false, false] rfl rfl (by kernel_rfl) (fun _ _ _ h => h) (Or.inl ⟨by rfl, ?_⟩) ?_ ?_
        rotate_left
        · intro w'
          go_simp
          with_reducible rfl
        rotate_left
        · simp only [Act.put, List.setIfInBounds_toArray, List.set_cons_zero, List.set_cons_succ, i64_w, i32_w]
          rfl
        refine pure_ (i := 2) (N := some 30) (v := ?_) (a' := ?_) #[false, true, true, false, false, false, false, false, false, false, false, false, false] rfl rfl (by kernel_rfl) (fun _ _ _ h => h) (Or.inl ⟨by rfl, ?_⟩) ?_ ?_
        rotate_left
        · intro w'
          go_simp
          with_reducible rfl
        rotate_left
        · simp only [Act.put, List.setIfInBounds_toArray, List.set_cons_zero, List.set_cons_succ, i64_w, i32_w]
          rfl
        refine pure_ (i := 4) (N := some 32) (v := ?_) (a' := ?_) #[false, true, true, false, true, false, false, false, false, false, false, false, false] rfl rfl (by kernel_rfl) (fun _ _ _ h => h) (Or.inl ⟨by rfl, ?_⟩) ?_ ?_
        rotate_left
        · intro w'
          go_simp
          with_reducible rfl
        rotate_left
        · simp only [Act.put, List.setIfInBounds_toArray, List.set_cons_zero, List.set_cons_succ, i64_w, i32_w]
          rfl
        refine pure_ (i := 8) (N := some 36) (v := ?_) (a' := ?_) #[false, true, true, false, true, false, false, false, true, false, false, false, false] rfl rfl (by kernel_rfl) (fun _ _ _ h => h) (Or.inl ⟨by rfl, ?_⟩) ?_ ?_
        rotate_left
        · intro w'
          go_simp
          with_reducible rfl
        rotate_left
        · simp only [Act.put, List.setIfInBounds_toArray, List.set_cons_zero, List.set_cons_succ, i64_w, i32_w]
          rfl
        refine take_ (i := 0) (N := some 28) (v := ?_) (a' := ?_) #[true, true, true, false, true, false, false, false, true, false, false, false, false] rfl rfl (by kernel_rfl) (fun _ _ _ h => h) (Or.inl ⟨by rfl, ?_⟩) hHeld ?_ ?_
        rotate_left
        · rintro w' ⟨s0, s1⟩
          go_simp
          with_reducible rfl
        rotate_left
        · simp only [Act.put, List.setIfInBounds_toArray, List.set_cons_zero, List.set_cons_succ, i64_w, i32_w]
          rfl
        refine take_ (i := 3) (N := some 31) (v := ?_) (a' := ?_) #[true, true, true, true, true, false, false, false, true, false, false, false, false] rfl rfl (by kernel_rfl) (fun _ _ _ h => h) (Or.inl ⟨by rfl, ?_⟩) hHeld ?_ ?_
        rotate_left
        · rintro w' ⟨s0, s1⟩
          go_simp
          with_reducible rfl
        rotate_left
        · simp only [Act.put, List.setIfInBounds_toArray, List.set_cons_zero, List.set_cons_succ, i64_w, i32_w]
          rfl
        refine pure_ (i := 5) (N := some 33) (v := ?_) (a' := ?_) #[true, true, true, true, true, true, false, false, true, false, false, false, false] rfl rfl (by kernel_rfl) (fun _ _ _ h => h) (Or.inl ⟨by rfl, ?_⟩) ?_ ?_
        rotate_left
        · intro w'
          go_simp
          with_reducible rfl
        rotate_left
        · simp only [Act.put, List.setIfInBounds_toArray, List.set_cons_zero, List.set_cons_succ, i64_w, i32_w]
          rfl
        refine pure_ (i := 6) (N := some 34) (v := ?_) (a' := ?_) #[true, true, true, true, true, true, true, false, true, false, false, false, false] rfl rfl (by kernel_rfl) (fun _ _ _ h => h) (Or.inl ⟨by rfl, ?_⟩) ?_ ?_
        rotate_left
        · intro w'
          go_simp
          with_reducible rfl
        rotate_left
        · simp only [Act.put, List.setIfInBounds_toArray, List.set_cons_zero, List.set_cons_succ, i64_w, i32_w]
          rfl
        refine take_ (i := 7) (N := some 35) (v := ?_) (a' := ?_) #[true, true, true, true, true, true, true, true, true, false, false, false, false] rfl rfl (by kernel_rfl) (fun _ _ _ h => h) (Or.inl ⟨by rfl, ?_⟩) hHeld ?_ ?_
        rotate_left
        · rintro w' ⟨s0, s1⟩
          go_simp
          with_reducible rfl
        rotate_left
        · simp only [Act.put, List.setIfInBounds_toArray, List.set_cons_zero, List.set_cons_succ, i64_w, i32_w]
          rfl
        refine pure_ (i := 9) (N := some 37) (v := ?_) (a' := ?_) #[true, true, true, true, true, true, true, true, true, true, false, false, false] rfl rfl (by kernel_rfl) (fun _ _ _ h => h) (Or.inl ⟨by rfl, ?_⟩) ?_ ?_
        rotate_left
        · intro w'
          go_simp
          with_reducible rfl
        rotate_left
        · simp only [Act.put, List.setIfInBounds_toArray, List.set_cons_zero, List.set_cons_succ, i64_w, i32_w]
          rfl
        refine pure_ (i := 10) (N := some 38) (v := ?_) (a' := ?_) #[true, true, true, true, true, true, true, true, true, true, true, false, false] rfl rfl (by kernel_rfl) (fun _ _ _ h => h) (Or.inl ⟨by rfl, ?_⟩) ?_ ?_
        rotate_left
        · intro w'
          go_simp
          with_reducible rfl
        rotate_left
        · simp only [Act.put, List.setIfInBounds_toArray, List.set_cons_zero, List.set_cons_succ, i64_w, i32_w]
          rfl
        refine pure_ (i := 11) (N := some 39) (v := ?_) (a' := ?_) #[true, true, true, true, true, true, true, true, true, true, true, true, false] rfl rfl (by kernel_rfl) (fun _ _ _ h => h) (Or.inl ⟨by rfl, ?_⟩) ?_ ?_
        rotate_left
        · intro w'
          go_simp
          with_reducible rfl
        rotate_left
        · simp only [Act.put, List.setIfInBounds_toArray, List.set_cons_zero, List.set_cons_succ, i64_w, i32_w]
          rfl
        refine last_ (i := 12) (N := none) #[true, true, true, true, true, true, true, true, true, true, true, true, true] rfl rfl (by kernel_rfl) (by decide) (fun K hK => ?_)
        have hf0 := blk_frozen HSd.out (v.toNat * 2)
        have hf1 := blk_frozen HSd.out (v.toNat * 2 + 1)
        have hc0 := c0d
        have hc1 := c1d
        refine skip_ (w1 := ?_) (by rfl) rfl ?_ ?_
        rotate_left
        · go_simp
          rfl
        refine hK.out _ _ ?_
        clear hK K
        refine done_ (by kernel_rfl) ?_
        generalize hwz : World.setCell (World.setCell wd _ _) _ _ = wz
        have HSz : Aside0 (wz.heap[b2]? = some (.cells (cellsS (stepS t.f2 (o.length : Int) at_ q v)).toArray 105 (0, 0))) := ⟨by
          rw [← hwz]
          have h_ := blk_set (blk_set HSd.out (v.toNat * 2) (.int .i64 v)) (v.toNat * 2 + 1) (.int .i64 (mx (rd_T105 q v).f1 (toS t.f2 (o.length : Int) at_ v)))
          have e_ := cellsS_set q v.toNat v (mx (rd_T105 q v).f1 (toS t.f2 (o.length : Int) at_ v)) HVL.out
          rw [HTO.out] at h_ e_
          unfold stepS
          rw [HTO.out, ← e_, Nat.mul_comm 2 v.toNat]
          simpa [mx] using h_⟩
        have HKz : Aside0 (Kb b2 w wz) := ⟨HKd.out.trans ⟨by
          rw [← hwz]
          exact ((Below.refl b2 wd).setCell (p := ⟨b2, v.toNat * 2, none⟩) (Nat.le_refl _) _).setCell (p := ⟨b2, v.toNat * 2 + 1, none⟩) (Nat.le_refl _) _, fun k hk hne => by
          rw [← hwz]
          exact (heap_setCell_other _ _ k _ hne).trans (heap_setCell_other wd _ k _ hne)⟩⟩
        clear hwz k2 k5 k6 hx c0d c1d u1 HK HKd HSd
        generalize (if (rd_T105 q v).f1 < at_ then at_ else (rd_T105 q v).f1) = mxv
        try clear hf0 hf1 hc0 hc1
        go_wp2_with fail
        go_roundg (l.length - (i + 1))
        case measure => have := HIQ.out; have := HLT.out; omega
        case rel => exact ⟨i + 1, by first | rfl | rw [HW64.out], ⟨by have := HLT.out; omega, rfl⟩, ⟨by rw [HTK.out]; exact HSz.out⟩, HKz⟩
    · have e_ : i = l.length := by have := HIQ.out; omega
      subst e_
      have hdec : decide ((l.length : Int) < (l.length : Int)) = false := decide_eq_false (by omega)
      have hdec2 : decide (l.length < l.length) = false := decide_eq_false hlt
      have hs := HS.out
      rw [List.take_length] at hs
      have HS2 := Aside0.mk hs
      clear hlt HIQ hs HS
      go_wp2_with fail
      go_end0
      exact ⟨rfl, HS2.out, HK.out⟩
end Go.Proofs.Ytchcbncelckgeaa.Lv
