/- Package owns: slices.Repeat of one -2. -/
import Derived.Test.YtoleplbmkdhgeaaOwnWk
import Derived.Test.YtoleplbmkdhgeaaPN3
import Derived.Laws.CopyOwn
import Derived.Shelf.Spec.SlicesInsert
import Derived.Deep.RegionLaw
set_option linter.unusedVariables false
set_option linter.unusedSimpArgs false
namespace Go.Proofs.Ytoleplbmkdhgeaa.Own
open Go.RowKit Go.Proofs.YtoleplbmkdhgeaaW.PrintWords Go.Proofs.YtoleplbmkdhgeaaW.PrintLast Go.Proofs.YtoleplbmkdhgeaaW.PrintMore Go.Proofs.Ytoleplbmkdhgeaa.PN Go.Proofs.Ytoleplbmkdhgeaa.Hnd Go.Lib

theorem mul_one (n : Nat) (h : n ≤ 100) : bits_Mul.f 1 (n : Int) = some (0, (n : Int)) := by
  have h_ : ∀ k : Fin 101, bits_Mul.f 1 ((k : Nat) : Int) = some (0, ((k : Nat) : Int)) := by decide
  exact h_ ⟨n, by omega⟩
def rowK (n k : Nat) : List Int := List.replicate k (-2) ++ List.replicate (n - k) 0
def cellK (n k : Nat) : List Value := (rowK n k).map (Value.int .i64)
theorem cellK_len {n k : Nat} (h : k ≤ n) : (cellK n k).length = n := by simp [cellK, rowK]; omega
theorem made_K (n : Nat) : (madeCells #[Value.int .i64 0] n) = (cellK n 0).toArray := by
  apply Array.ext'
  apply List.ext_getElem
  · simp [madeCells, cellK, rowK]
  · intro i h1 h2
    simp [madeCells, cellK, rowK, Nat.mod_one]
theorem splice_K {n k j : Nat} (h : k + j ≤ n) : splice (cellK n k) k ((List.replicate j (-2 : Int)).map (Value.int .i64)) = cellK n (k + j) := by
  unfold splice cellK rowK
  simp only [List.map_append, List.map_replicate, List.length_replicate]
  rw [List.take_left' (by simp), List.drop_append, List.drop_eq_nil_of_le (by simp)]
  rw [List.nil_append, List.length_replicate, List.drop_replicate, ← List.append_assoc, List.replicate_append_replicate]
  congr 2; omega
theorem cellK_get {n k : Nat} (j : Nat) (h : j < k) : (cellK n k)[j]? = some (.int .i64 (-2)) := by
  unfold cellK rowK
  rw [List.getElem?_map, List.getElem?_append_left (by simpa using h)]
  simp [h]
set_option maxHeartbeats 8000000 in
set_option maxRecDepth 100000 in
theorem repeat_calls (w : World) (b n : Nat) (hb : w.heap[b]? = some (.cells #[.int .i64 (-2)] 3 (0, 0))) (hn : n ≤ 100) :
    Calls Try.prog 55 #[.slice (some ⟨b, 0, none⟩) 1 1, .int .i64 (n : Int)] w fun e w' => ∃ v, e = .returned v ∧ w'.ownsRow w.heap.size 3 1 v n ((List.replicate n (-2 : Int)).map (Value.int .i64)) ∧ Below w.heap.size w w' := by
  have HB := Aside0.mk hb
  have HN := Aside0.mk hn
  have HM := Aside0.mk (mul_one n hn)
  have hd0 : decide ((n : Int) < 0) = false := decide_eq_false (by omega)
  have hw : IntKind.u64.wrap (n : Int) = (n : Int) := by show (n : Int) % 18446744073709551616 = _; omega
  have hw2 : wrap64 (n : Int) = (n : Int) := by unfold wrap64; omega
  have hd1 : decide ((9223372036854775807 : Int) < (n : Int)) = false := decide_eq_false (by omega)
  have hmk : ∀ W : World, (Instr.makeSlice 23 (.int .i64 (n : Int)) (.int .i64 (n : Int))).run Try.prog W = .ok (.slice (some ⟨W.heap.size, 0, none⟩) n n) (W.alloc (.cells (madeCells #[.int .i64 0] n) 3)) := by
    intro W
    exact run_make_row' 23 3 (.int .i64 0) 8 Try.underlying23 (by kernel_rfl) rfl .i64 .i64 n (by omega) (by omega) W
  clear hb hn
  go_enter Try.func55, Try.ntmps55
  go_wp2_with fail
  refine (bits_Mul.calls 1 n 0 n _ HM.out).mono ?_
  rintro e w1 ⟨rfl, ⟨m1, rfl⟩⟩
  obtain ⟨W1, hW1⟩ : ∃ W1, W1 = (w.drewN m1).alloc (Obj.cells (madeCells #[Value.int .i64 0] n) 3) := ⟨_, rfl⟩
  have hg1 : W1.heap[w.heap.size]? = some (.cells (cellK n 0).toArray 3 (0, 0)) := by
    rw [hW1, ← made_K]; exact blk_new (w.drewN m1) _
  have hbb : W1.heap[b]? = some (.cells #[.int .i64 (-2)] 3 (0, 0)) := by rw [hW1]; exact blk_alloc (blk_drewN HB.out m1) _
  have hbw : Below w.heap.size w W1 := by rw [hW1]; exact below_alloc (by repeat (first | exact Below.refl _ _ | apply pw_below_drewN)) _
  have hcp : ∃ (W2 : World) (k : Nat), (Builtin.copy_ #[23, 23] 3 #[.slice (some ⟨w.heap.size, 0, none⟩) n n, .slice (some ⟨b, 0, none⟩) 1 1]).run Try.prog W1 = .ok (.int .i64 (k : Int)) W2 ∧ Aside0 (k ≤ n ∧ (1 ≤ n → 1 ≤ k) ∧ W2.heap[w.heap.size]? = some (.cells (cellK n k).toArray 3 (0, 0)) ∧ Below w.heap.size w W2) := by
    rcases Nat.eq_zero_or_pos n with h0 | hp
    · refine ⟨W1, 0, ?_, ⟨by omega, by omega, hg1, hbw⟩⟩
      have h_ := run_copy_none (P := Try.prog) W1 23 23 3 3 (some ⟨w.heap.size, 0, none⟩) (some ⟨b, 0, none⟩) n n 1 1 Try.underlying23 (by kernel_rfl) (by rw [h0]; rfl)
      exact h_
    · have h_ := run_copy_cells (P := Try.prog) W1 23 23 3 3 w.heap.size 0 n n ⟨b, 0, none⟩ 1 1 [.int .i64 (-2)] Try.underlying23 (by kernel_rfl) (by show 1 = Nat.min 1 n; exact (Nat.min_eq_left hp).symm)
        (fun j v hj => by
          rcases j with _ | j
          · simp at hj; subst hj; rw [add_plain]; exact (blk_cell hbb 0).trans rfl
          · simp at hj)
        (fun j hj => by
          rw [blk_cell hg1]
          have : (cellK n 0).length = n := cellK_len (Nat.zero_le _)
          simp at hj
          simp [this]; omega)
        (fun j hj => blk_frozen hg1 _) (fun v hv => by simp at hv; subst hv; rfl)
      refine ⟨_, 1, h_, ⟨by omega, fun _ => Nat.le_refl _, ?_, ?_⟩⟩
      · have h2_ := blk_set hg1 0 (.int .i64 (-2))
        have e_ : (cellK n 0).set 0 (.int .i64 (-2)) = cellK n 1 := by
          have hs := splice_K (n := n) (k := 0) (j := 1) (by omega)
          rw [← hs]
          obtain ⟨n', rfl⟩ : ∃ n', n = n' + 1 := ⟨n - 1, by omega⟩
          simp [splice, cellK, rowK, List.replicate_succ]
        rw [← e_]
        have h3_ : W1.setCells w.heap.size 0 [Value.int .i64 (-2)] = W1.setCell ⟨w.heap.size, 0, none⟩ (.int .i64 (-2)) := rfl
        rw [h3_]
        simpa using h2_
      · exact hbw.setCell (p := ⟨w.heap.size, 0, none⟩) (Nat.le_refl _) _
  obtain ⟨W2, k0, hcp, hfacts⟩ := hcp
  rw [hW1] at hcp
  clear hg1 hbb hbw hW1 HB HM
  go_wp2_with fail
  go_loopg [8] (n + 1) (fun kq v8 W => ∃ k : Nat, v8 = .int .i64 (k : Int) ∧ Aside0 (k ≤ n ∧ (1 ≤ n → 1 ≤ k) ∧ n - k < kq ∧ W.heap[w.heap.size]? = some (.cells (cellK n k).toArray 3 (0, 0)) ∧ Below w.heap.size w W))
  case atStart => exact ⟨k0, rfl, ⟨hfacts.out.1, hfacts.out.2.1, by omega, hfacts.out.2.2⟩⟩
  case round =>
    clear hcp hfacts hmk
    obtain ⟨k, rfl, HQ⟩ := hrel
    by_cases hlt : k < n
    · have hk1 : 1 ≤ k := HQ.out.2.1 (by omega)
      have HLT := Aside0.mk hlt
      have hdec : decide ((k : Int) < (n : Int)) = true := decide_eq_true (by omega)
      have hdec2 : decide (k < n) = true := decide_eq_true hlt
      have hp1 : ((k : Int) ≤ (n : Int)) = True := eq_true (by omega)
      have hp2 : (n = k) = False := eq_false (by omega)
      have hp3 : k ≤ n := by omega
      have hp4 : (0 : Int) ≤ (k : Int) := by omega
      have HG : Aside0 (wr.drew.heap[w.heap.size]? = some (.cells (cellK n k).toArray 3 (0, 0))) := ⟨HQ.out.2.2.2.1⟩
      have HB : Aside0 (Below w.heap.size w wr.drew) := ⟨below_drew HQ.out.2.2.2.2⟩
      obtain ⟨j, hj⟩ : ∃ j, j = Nat.min k (n - k) := ⟨_, rfl⟩
      have hj1 : 1 ≤ j ∧ k + j ≤ n ∧ j ≤ k := by
        have h1_ : j ≤ k := hj ▸ Nat.min_le_left k (n - k)
        have h2_ : j ≤ n - k := hj ▸ Nat.min_le_right k (n - k)
        have h3_ : 1 ≤ j := hj ▸ Nat.le_min.2 ⟨hk1, by omega⟩
        omega
      have HJ1 := Aside0.mk hj1
      have HJ := Aside0.mk hj
      have hlen : ((List.replicate j (-2 : Int)).map (Value.int .i64)).length = j := by simp
      have HLEN := Aside0.mk hlen
      have HSP := Aside0.mk (splice_K hj1.2.1)
      have hsrc : ∀ (W : World), W.heap[w.heap.size]? = some (.cells (cellK n k).toArray 3 (0, 0)) → ∀ t u, ((List.replicate j (-2 : Int)).map (Value.int .i64))[t]? = some u → W.cell? ((⟨w.heap.size, 0, none⟩ : Addr).add t) = some u := by
        intro W hW t u hu
        have ht : t < j := by
          rcases Nat.lt_or_ge t j with h | h
          · exact h
          · rw [List.getElem?_eq_none (by simpa using h)] at hu; cases hu
        rw [add_plain, blk_cell hW]
        have := cellK_get (n := n) t (show t < k by omega)
        simp only [List.getElem?_toArray, this]
        simp [ht] at hu
        rw [hu]
      have HSRC := Aside0.mk hsrc
      obtain ⟨cs, hcs⟩ : ∃ cs, cs = (List.replicate j (-2 : Int)).map (Value.int .i64) := ⟨_, rfl⟩
      rw [← hcs] at HSP HSRC HLEN
      have HONE : Aside0 (∀ v ∈ cs, v.oneCell' = true) := ⟨by rw [hcs]; intro v hv; simp at hv; rw [hv.2]; rfl⟩
      have HFIT : Aside0 (k + cs.length ≤ (cellK n k).length) := ⟨by rw [HLEN.out, cellK_len hp3]; exact hj1.2.1⟩
      have hE := (show Try.prog.underlying 23 = some (.slice 3) from Try.underlying23)
      clear hj hj1 hlen hsrc hcs hlt hk1
      go_wp2_with fail
      refine start_ (n := 10) (S := fun w' => True) (ds := []) #[false, false, false, false, false, false, false, false, false, false] (by kernel_rfl) rfl rfl trivial (fun hHeld => ?_)
      refine pure_ (i := 0) (N := some 38) (v := ?_) (a' := ?_) #[true, false, false, false, false, false, false, false, false, false] rfl rfl (by kernel_rfl) (fun _ _ _ h => h) (Or.inl ⟨by rfl, ?_⟩) ?_ ?_
      rotate_left
      · intro w'
        go_simp
        with_reducible rfl
      rotate_left
      · simp only [Act.put, List.setIfInBounds_toArray, List.set_cons_zero, List.set_cons_succ, i64_w, i32_w]
        rfl
      refine pure_ (i := 1) (N := some 39) (v := ?_) (a' := ?_) #[true, true, false, false, false, false, false, false, false, false] rfl rfl (by kernel_rfl) (fun _ _ _ h => h) (Or.inl ⟨by rfl, ?_⟩) ?_ ?_
      rotate_left
      · intro w'
        go_simp
        with_reducible rfl
      rotate_left
      · simp only [Act.put, List.setIfInBounds_toArray, List.set_cons_zero, List.set_cons_succ, i64_w, i32_w]
        rfl
      refine pure_ (i := 2) (N := some 40) (v := ?_) (a' := ?_) #[true, true, true, false, false, false, false, false, false, false] rfl rfl (by kernel_rfl) (fun _ _ _ h => h) (Or.inl ⟨by rfl, ?_⟩) ?_ ?_
      rotate_left
      · intro w'
        go_simp
        with_reducible rfl
      rotate_left
      · simp only [Act.put, List.setIfInBounds_toArray, List.set_cons_zero, List.set_cons_succ, i64_w, i32_w]
        rfl
      refine pure_ (i := 3) (N := some 41) (v := ?_) (a' := ?_) #[true, true, true, true, false, false, false, false, false, false] rfl rfl (by kernel_rfl) (fun _ _ _ h => h) (Or.inl ⟨by rfl, ?_⟩) ?_ ?_
      rotate_left
      · intro w'
        go_simp
        with_reducible rfl
      rotate_left
      · simp only [Act.put, List.setIfInBounds_toArray, List.set_cons_zero, List.set_cons_succ, i64_w, i32_w]
        rfl
      refine pure_ (i := 4) (N := some 42) (v := ?_) (a' := ?_) #[true, true, true, true, true, false, false, false, false, false] rfl rfl (by kernel_rfl) (fun _ _ _ h => h) (Or.inl ⟨by rfl, ?_⟩) ?_ ?_
      rotate_left
      · intro w'
        go_simp
        with_reducible rfl
      rotate_left
      · simp only [Act.put, List.setIfInBounds_toArray, List.set_cons_zero, List.set_cons_succ, i64_w, i32_w]
        rfl
      refine pure_ (i := 5) (N := some 43) (v := ?_) (a' := ?_) #[true, true, true, true, true, true, false, false, false, false] rfl rfl (by kernel_rfl) (fun _ _ _ h => h) (Or.inl ⟨by rfl, ?_⟩) ?_ ?_
      rotate_left
      · intro w'
        go_simp
        with_reducible rfl
      rotate_left
      · simp only [Act.put, List.setIfInBounds_toArray, List.set_cons_zero, List.set_cons_succ, i64_w, i32_w]
        rfl
      refine pure_ (i := 6) (N := some 44) (v := ?_) (a' := ?_) #[true, true, true, true, true, true, true, false, false, false] rfl rfl (by kernel_rfl) (fun _ _ _ h => h) (Or.inl ⟨by rfl, ?_⟩) ?_ ?_
      rotate_left
      · intro w'
        go_simp
        with_reducible rfl
      rotate_left
      · simp only [Act.put, List.setIfInBounds_toArray, List.set_cons_zero, List.set_cons_succ, i64_w, i32_w]
        rfl
      refine one_ (i := 7) (N := some 45) #[true, true, true, true, true, true, true, true, false, false] rfl rfl (by kernel_rfl) (by decide) (fun K hK => ?_)
      refine step_copy_splice rfl (.tmp 41) (.tmp 44) 23 23 rfl 3 hE (by kernel_rfl) (some ⟨w.heap.size, k, none⟩) (some ⟨w.heap.size, 0, none⟩) (n - k) (n - k) k n (by simp [Act.eval, Act.put]) (by simp [Act.eval, Act.put]) w.heap.size k (cellK n k) 3 HG.out cs (by rw [HLEN.out, HJ.out]) (fun _ => ⟨rfl, _, rfl, HSRC.out _ HG.out⟩) HFIT.out HONE.out w.heap.size w HB.out (Nat.le_refl _) ?_
      intro w4 hg4 hb4
      rw [HSP.out] at hg4
      refine hK.out _ _ trivial (fun hHeld => ?_)
      clear hK K
      refine norm_ (a' := ?_) ?_ ?_
      rotate_left
      · show Act.put _ (some 45) _ = _
        simp only [Act.put, List.setIfInBounds_toArray, List.set_cons_zero, List.set_cons_succ, i64_w, i32_w]
        rfl
      refine pure_ (i := 8) (N := some 46) (v := ?_) (a' := ?_) #[true, true, true, true, true, true, true, true, true, false] rfl rfl (by kernel_rfl) (fun _ _ _ h => h) (Or.inl ⟨by rfl, ?_⟩) ?_ ?_
      rotate_left
      · intro w'
        go_simp
        with_reducible rfl
      rotate_left
      · simp only [Act.put, List.setIfInBounds_toArray, List.set_cons_zero, List.set_cons_succ, i64_w, i32_w]
        rfl
      refine pure_ (i := 9) (N := some 8) (v := ?_) (a' := ?_) #[true, true, true, true, true, true, true, true, true, true] rfl rfl (by kernel_rfl) (fun _ _ _ h => h) (Or.inl ⟨by rfl, ?_⟩) ?_ ?_
      rotate_left
      · intro w'
        go_simp
        with_reducible rfl
      rotate_left
      · simp only [Act.put, List.setIfInBounds_toArray, List.set_cons_zero, List.set_cons_succ, i64_w, i32_w]
        rfl
      refine done_ (by kernel_rfl) ?_
      have HG4 := Aside0.mk hg4
      have HB4 := Aside0.mk hb4
      clear hg4 hb4
      go_wp2
      go_roundg (gk - 1)
      case measure => have := HQ.out.2.2.1; omega
      case rel =>
        refine ⟨k + j, ?_, ⟨HJ1.out.2.1, fun _ => by have := HJ1.out.1; omega, by have := HQ.out.2.2.1; have := HJ1.out; omega, HG4.out.out, HB4.out⟩⟩
        rw [HLEN.out, show wrap64 ((k : Int) + (j : Int)) = ((k + j : Nat) : Int) from by have := HJ1.out; have := HN.out; unfold wrap64; omega]
    · have e_ : k = n := by have := HQ.out.1; omega
      subst e_
      have hdec : decide ((k : Int) < (k : Int)) = false := decide_eq_false (by omega)
      have hdec2 : decide (k < k) = false := decide_eq_false hlt
      clear hlt
      go_wp2_with fail
      go_ret
      have hg := HQ.out.2.2.2.1
      have hk := HQ.out.1
      refine ⟨_, rfl, ⟨by simp, .inr ⟨w.heap.size, k, _, rfl, Nat.le_refl _, hg, Nat.le_refl _, by have := HN.out; unfold maxLen; omega, by simp [cellK_len], ?_⟩⟩, HQ.out.2.2.2.2⟩
      simp [cellK, rowK]
end Go.Proofs.Ytoleplbmkdhgeaa.Own
