/- Package ends: Rounds walked. -/
import Derived.Test.YtnimidkeoocchaaEndsHd
import Derived.Deep.DeepCutAuto
set_option linter.unusedVariables false
set_option linter.unusedSimpArgs false
namespace Go.Proofs.Ytnimidkeoocchaa.End
open Go.RowKit Go.Proofs.YtnimidkeoocchaaW.PrintWords Go.Proofs.YtnimidkeoocchaaW.PrintLast Go.Proofs.YtnimidkeoocchaaW.PrintMore Go.Proofs.Ytnimidkeoocchaa.PE Go.Proofs.Ytnimidkeoocchaa.Rch Go.Proofs.Ytnimidkeoocchaa.Chk Go.Proofs.Ytnimidkeoocchaa.Fni Go.Proofs.Ytnimidkeoocchaa.Hnd

def nowL (has : List (List Int)) (left : List Int) : List Int := if (left.filter (fun n => !hadB has left n)).length = 0 then left else left.filter (fun n => !hadB has left n)
def nextL (has : List (List Int)) (left : List Int) : List Int := left.filter (fun n => !(nowL has left).contains n)
def roundsL (has : List (List Int)) : Nat → List Int → List (List Int)
  | 0, _ => []
  | k + 1, left => if left.length = 0 then [] else nowL has left :: roundsL has k (nextL has left)
theorem nowL_sub (has : List (List Int)) (left : List Int) : ∀ x ∈ nowL has left, x ∈ left := by
  intro x hx
  unfold nowL at hx
  split at hx
  · exact hx
  · exact (List.mem_filter.1 hx).1
theorem nowL_len (has : List (List Int)) (left : List Int) : (nowL has left).length ≤ left.length := by
  unfold nowL
  split
  · exact Nat.le_refl _
  · exact List.length_filter_le _ _
theorem nowL_pos {has : List (List Int)} {left : List Int} (h : left.length ≠ 0) : (nowL has left).length ≠ 0 := by
  unfold nowL
  split
  · exact h
  · assumption
theorem nextL_lt {has : List (List Int)} {left : List Int} (h : left.length ≠ 0) : (nextL has left).length < left.length := by
  have hp := nowL_pos (has := has) h
  obtain ⟨x, hx⟩ : ∃ x, x ∈ nowL has left := by
    cases hn : nowL has left with
    | nil => rw [hn] at hp; simp at hp
    | cons x l => exact ⟨x, by simp⟩
  have hxl := nowL_sub has left x hx
  unfold nextL
  have hc : (left.filter (fun n => !(nowL has left).contains n)).length ≠ left.length := by
    intro e
    have := List.length_filter_eq_length_iff.1 e x hxl
    simp [hx] at this
  have := List.length_filter_le (fun n => !(nowL has left).contains n) left
  omega
theorem rounds_step {has : List (List Int)} {left : List Int} (h : left.length ≠ 0) : roundsL has left.length left = nowL has left :: roundsL has (nextL has left).length (nextL has left) := by
  have key : ∀ (k k' : Nat) (l : List Int), l.length ≤ k → l.length ≤ k' → roundsL has k l = roundsL has k' l := by
    intro k
    induction k with
    | zero =>
      intro k' l h1 h2
      cases k' with
      | zero => rfl
      | succ k' => rw [roundsL, roundsL, if_pos (by omega)]
    | succ k ih =>
      intro k' l h1 h2
      cases k' with
      | zero => rw [roundsL, roundsL, if_pos (by omega)]
      | succ k' =>
        rw [roundsL, roundsL]
        by_cases h0 : l.length = 0
        · rw [if_pos h0, if_pos h0]
        · rw [if_neg h0, if_neg h0, ih k' (nextL has l) (by have := nextL_lt (has := has) h0; omega) (by have := nextL_lt (has := has) h0; omega)]
  obtain ⟨m, hm⟩ : ∃ m, left.length = m + 1 := ⟨left.length - 1, by omega⟩
  rw [hm, roundsL, if_neg h, key m (nextL has left).length (nextL has left) (by have := nextL_lt (has := has) h; omega) (Nat.le_refl _)]
theorem at_row {w : World} {A : Option Addr} {n : Nat} {has : List (List Int)} (h : Kd.C (Kd.slice 3 (Kd.int .i64)) w A n has) (i : Nat) (hi : i < n) :
    ∃ ad B c, A = some ad ∧ w.cell? (ad.add i) = some (.slice B (has.getD i []).length c) ∧ (has.getD i []).length ≤ c ∧ Kd.C (Kd.int .i64) w B (has.getD i []).length (has.getD i []) := by
  obtain ⟨ad, cs, e, hl, hK, hc⟩ := Kd.C_get h [] (i : Int) (by omega) (by omega)
  obtain ⟨B, c, rfl, h1, h2⟩ := hK
  rw [Int.toNat_natCast] at hc h1 h2
  exact ⟨ad, B, c, e, by have h_ := hc 0 _ rfl; simpa [Kd.slice] using h_, h1, h2⟩
theorem info_sl : (Try.prog.info? 29).map (fun i => (i.zero, i.size, i.bytes)) = some (some (.slice none 0 0), 1, 24) := by kernel_rfl
theorem own_typedH {w : World} {base : Nat} {e : TypeId} {size : Nat} {v : Value} {n : Nat} {xs : List Value} (h : w.ownsRow base e size v n xs) : ∀ k, v.ownBlock = some k → ∃ cs, w.heap[k]? = some (.cells cs e (0, 0)) := own_tyH h
theorem own_lowH {w : World} {base base' : Nat} {e : TypeId} {size : Nat} {v : Value} {n : Nat} {xs : List Value} (h : w.ownsRow base e size v n xs) (hb : base' ≤ base) : w.ownsRow base' e size v n xs := by
  refine ⟨h.1, ?_⟩
  rcases h.2 with hn | ⟨g, cap, cur, rfl, hbb, rest⟩
  · exact .inl hn
  · exact .inr ⟨g, cap, cur, rfl, Nat.le_trans hb hbb, rest⟩
set_option maxHeartbeats 16000000 in
set_option maxRecDepth 100000 in
theorem Rounds_err (w : World) (AH : Option Addr) (cH : Nat) (has : List (List Int)) (AR : Option Addr) (cR : Nat) (roots : List Int) (A : Option Addr) (c : Nat) (l : List Int)
    (hH : KH.C w AH has.length has) (hcH : has.length ≤ cH) (hR : (Kd.int .i64).C w AR roots.length roots) (hcR : roots.length ≤ cR) (hl : (Kd.int .i64).C w A l.length l) (hlc : l.length ≤ c) (hE : dueE has roots l ≠ 0) :
    Calls Try.prog 36 #[.agg #[.slice AH has.length cH, .slice AR roots.length cR], .slice A l.length c] w fun e w' => e = .returned (.tuple #[.slice none 0 0, .int .i64 (dueE has roots l)]) ∧ Below w.heap.size w w' := by
  have hbx := below_alloc (Below.refl w.heap.size w) (Obj.cells #[.slice AH has.length cH, .slice AR roots.length cR] 38)
  have HBX := Aside0.mk hbx
  have HCALL := Aside0.mk (due_err _ AH cH has AR cR roots A c l (Kd.C_below hH hbx) hcH (Kd.C_below hR hbx) hcR (Kd.C_below hl hbx) hlc hE)
  have hb : (dueE has roots l == 0) = false := by simpa using hE
  generalize dueE has roots l = E at HCALL hb
  clear hH hcH hR hcR hl hlc hbx hE
  go_enter Try.func36, Try.ntmps36
  go_wp2_with fail
  refine HCALL.out.mono ?_
  rintro e w2 ⟨rfl, hd2⟩
  have HB2 := Aside0.mk (below_alloc (below_step HBX.out hd2) (Obj.cells #[.slice none 0 0] 29))
  clear hd2 HCALL
  go_wp2_with fail
  go_ret2
  exact ⟨rfl, HB2.out⟩
set_option maxHeartbeats 16000000 in
set_option maxRecDepth 100000 in
theorem Rounds_ok (w : World) (AH : Option Addr) (cH : Nat) (has : List (List Int)) (AR : Option Addr) (cR : Nat) (roots : List Int) (A : Option Addr) (c : Nat) (l : List Int)
    (hH : KH.C w AH has.length has) (hcH : has.length ≤ cH) (hR : (Kd.int .i64).C w AR roots.length roots) (hcR : roots.length ≤ cR) (hl : (Kd.int .i64).C w A l.length l) (hlc : l.length ≤ c) (hE : dueE has roots l = 0) :
    Calls Try.prog 36 #[.agg #[.slice AH has.length cH, .slice AR roots.length cR], .slice A l.length c] w fun e w' => ∃ v, e = .returned (.tuple #[v, .int .i64 0]) ∧ Kd.S KH 29 w' w.heap.size (fun _ => True) v (roundsL has (dueL has roots l).length (dueL has roots l)) ∧ Below w.heap.size w w' := by
  obtain ⟨hck, hl100, hin⟩ := dueE_ok hE
  obtain ⟨hz1, hz2, hz3, hri, hhi⟩ := check_ok hck
  have hbx := below_alloc (Below.refl w.heap.size w) (Obj.cells #[.slice AH has.length cH, .slice AR roots.length cR] 38)
  have HBX := Aside0.mk hbx
  have HG := Aside0.mk (blk_new w (Obj.cells #[.slice AH has.length cH, .slice AR roots.length cR] 38))
  have HCALL := Aside0.mk (due_ok _ AH cH has AR cR roots A c l (Kd.C_below hH hbx) hcH (Kd.C_below hR hbx) hcR (Kd.C_below hl hbx) hlc hE)
  have HH := Aside0.mk hH
  have HHI : Aside0 (∀ r ∈ has, InR has.length r) := ⟨fun r hr x hx => hhi r hr x hx⟩
  have HZ := Aside0.mk hz1
  have HDI : Aside0 (InR has.length (dueL has roots l)) := ⟨fun x hx => hin x (due_mem.1 hx).1⟩
  have HDZ : Aside0 ((dueL has roots l).length ≤ 100) := ⟨Nat.le_trans (due_len has roots l) hl100⟩
  obtain ⟨D, hD⟩ : ∃ D, D = dueL has roots l := ⟨_, rfl⟩
  have HDD := Aside0.mk hD
  rw [← hD] at HCALL HDI HDZ
  obtain ⟨b, hb⟩ : ∃ b, b = fromL has roots := ⟨_, rfl⟩
  rw [← hb] at HCALL
  have HSW : Aside0 (w.heap.size < (w.alloc (Obj.cells #[.slice AH has.length cH, .slice AR roots.length cR] 38)).heap.size) := ⟨by simp⟩
  clear hH hcH hR hcR hl hlc hbx hE hck hl100 hin hz1 hz2 hz3 hri hhi hD hb
  go_enter Try.func36, Try.ntmps36
  go_wp2_with fail
  refine HCALL.out.mono ?_
  rintro e w2 ⟨A1, c1, A2, c2, rfl, hR1, hR2, hb2⟩
  clear hR2
  have hbl := below_alloc (Below.refl w2.heap.size w2) (Obj.cells #[.slice A1 D.length c1] 29)
  have hbm := below_alloc hbl (Obj.map #[] 0)
  have hb9 := below_alloc hbm (Obj.cells #[.map (some (w2.heap.size + 1))] 89)
  have H6 := Aside0.mk (blk_new w2 (Obj.cells #[.slice A1 D.length c1] 29))
  have HMM := Aside0.mk (IsMapV.made (w2.alloc (Obj.cells #[.slice A1 D.length c1] 29)) Try.prog 3)
  have hmm := @run_makeMap Try.prog
  have HBL := Aside0.mk hbl
  have HB9 := Aside0.mk hb9
  have HMB := Aside0.mk ((IsMapV.made (w2.alloc (Obj.cells #[.slice A1 D.length c1] 29)) Try.prog 3).alloc (Obj.cells #[.map (some (w2.heap.size + 1))] 89))
  have HR1 := Aside0.mk hR1
  have HB2 := Aside0.mk hb2
  have HB24 : Aside0 (Below w2.heap.size w2 (((w2.alloc (Obj.cells #[.slice A1 D.length c1] 29)).alloc (Obj.map #[] 0)).alloc (Obj.cells #[.map (some (w2.heap.size + 1))] 89))) := ⟨hb9⟩
  have H6b := Aside0.mk (blk_below (blk_below H6.out (below_alloc (Below.refl _ _) (Obj.map #[] 0))) (below_alloc (Below.refl _ _) (Obj.cells #[.map (some (w2.heap.size + 1))] 89)))
  have h9b := blk_new ((w2.alloc (Obj.cells #[.slice A1 D.length c1] 29)).alloc (Obj.map #[] 0)) (Obj.cells #[.map (some (w2.heap.size + 1))] 89)
  have hz9 : ((w2.alloc (Obj.cells #[.slice A1 D.length c1] 29)).alloc (Obj.map #[] 0)).heap.size = w2.heap.size + 1 + 1 := by simp
  rw [hz9] at h9b
  have H9b := Aside0.mk h9b
  have hz10 : ((((w2.alloc (Obj.cells #[.slice A1 D.length c1] 29)).alloc (Obj.map #[] 0)).alloc (Obj.cells #[.map (some (w2.heap.size + 1))] 89))).heap.size = w2.heap.size + 3 := by simp
  have HZ10 := Aside0.mk hz10
  have hzm : (w2.alloc (Obj.cells #[.slice A1 D.length c1] 29)).heap.size = w2.heap.size + 1 := by simp
  rw [hzm] at HMB
  clear hb2 hbl hbm hb9 HMM hR1 HCALL h9b hz9 hz10 hzm
  go_wp2_with fail
  generalize (((w2.alloc (Obj.cells #[.slice A1 D.length c1] 29)).alloc (Obj.map #[] 0)).alloc (Obj.cells #[.map (some (w2.heap.size + 1))] 89)) = w4 at HB24 H6b H9b HMB HZ10 ⊢
  have HB2w : Aside0 (Below w.heap.size w w2) := ⟨below_step HBX.out HB2.out⟩
  have HSB : Aside0 (w.heap.size < w2.heap.size) := ⟨Nat.lt_of_lt_of_le HSW.out HB2.out.size⟩
  have HBW4 : Aside0 (Below w.heap.size w w4) := ⟨below_step HB2w.out HB24.out⟩
  have HG4 := Aside0.mk (blk_below (blk_below HG.out HB2.out) HB24.out)
  have HR4 := Aside0.mk (Kd.R_below HR1.out HB24.out)
  have HCD : Aside0 (∀ W : World, (∀ k, k < w4.heap.size → k ≠ w2.heap.size + 1 → W.heap[k]? = w4.heap[k]?) → (Kd.int .i64).C W A1 D.length D) := ⟨fun W hk => (Kd.R_reads' (R_flat rfl HR4.out (fun k hk2 => hk k (Kd.R_lt HR4.out k hk2) (fun e => by have := Kd.R_lt HR1.out k hk2; omega)))).2.2⟩
  have hmm2 := Try.underlying89
  obtain ⟨b6, hb6⟩ : ∃ b6, b6 = w2.heap.size := ⟨_, rfl⟩
  have HB6 := Aside0.mk hb6
  rw [← hb6] at H6b H9b HMB HZ10 HCD HSB
  simp only [← hb6]
  clear hb6 hmm HB24 H6 HBL HB9
  go_loopg [27] D.length (fun kq v27 W => ∃ (i n : Nat) (f : Int → Option Value), v27 = .int .i64 (i : Int) ∧ Aside0 (i ≤ D.length ∧ kq = D.length - i) ∧ Aside0 (IsMapV Try.prog 3 W (b6 + 1) n f ∧ n ≤ i) ∧ Aside0 (∀ k ∈ D.take i, ∃ A c, f k = some (.slice A has.length c) ∧ Kd.bool.R 4 W 0 (fun j => j ≠ b6 + 1) (.slice A has.length c) (fromL has (has.getD k.toNat []))) ∧ Aside0 (w4.heap.size ≤ W.heap.size ∧ ∀ k, k < w4.heap.size → k ≠ b6 + 1 → W.heap[k]? = w4.heap[k]?) ∧ Aside0 (Below w.heap.size w W))
  case atStart => exact ⟨0, 0, _, rfl, ⟨Nat.zero_le _, by omega⟩, ⟨HMB.out, Nat.le_refl _⟩, ⟨fun k hk => by simp at hk⟩, ⟨Nat.le_refl _, fun _ _ _ => rfl⟩, HBW4⟩
  case round =>
    obtain ⟨i, n, f, rfl, HIQ, HM, HF, HK, HB⟩ := hrel
    by_cases hlt : i < D.length
    · have hi0 : (0 : Int) ≤ (i : Int) := by omega
      have hi1 : (i : Int) < (D.length : Int) := by omega
      obtain ⟨ad, e, hx⟩ := Kd.at_int (HCD.out wr HK.out.2) (i : Int) (by omega) (by omega)
      rw [Int.toNat_natCast, Fni.rdI hlt] at hx
      subst e
      have hdec : decide ((i : Int) < (D.length : Int)) = true := decide_eq_true hi1
      have hdec2 : decide (i < D.length) = true := decide_eq_true hlt
      have HLT := Aside0.mk hlt
      have hy := HDI.out _ (List.getElem_mem hlt)
      have HTK : Aside0 (∀ k ∈ D.take (i + 1), k ∈ D.take i ∨ k = D[i]) := ⟨fun k hk => by
        rw [List.take_succ_eq_append_getElem hlt] at hk
        rcases List.mem_append.1 hk with h_ | h_
        · exact .inl h_
        · exact .inr (by simpa using h_)⟩
      generalize D[i] = y at hx hy HTK
      obtain ⟨m, rfl⟩ : ∃ m : Nat, y = m := ⟨y.toNat, by omega⟩
      have hm0 : (0 : Int) ≤ (m : Int) := hy.1
      have hm1 : (m : Int) < (has.length : Int) := hy.2
      obtain ⟨adH, Ai, ci, e, hrow0, hci, hCi⟩ := at_row HH.out m (by omega)
      subst e
      have hrow := pw_cell_below HB.out hrow0
      have HCI := Aside0.mk hCi
      have HCIc := Aside0.mk hci
      have HRI := Aside0.mk (row_in HHI.out m)
      obtain ⟨row, hrw⟩ : ∃ row, row = has.getD m [] := ⟨_, rfl⟩
      have HRW := Aside0.mk hrw
      rw [← hrw] at hrow HCI HCIc HRI
      have hgk := (HK.out.2 w.heap.size (by have := HZ10.out; have := HSB.out; omega) (by have := HSB.out; omega)).trans HG4.out
      have g0 := (blk_cell hgk 0).trans rfl
      have g1 := (blk_cell hgk 1).trans rfl
      have h9k := (HK.out.2 (b6 + 1 + 1) (by have := HZ10.out; omega) (by omega)).trans H9b.out
      have k9 := (blk_cell h9k 0).trans rfl
      have HW64 : Aside0 (wrap64 ((i : Int) + 1) = ((i + 1 : Nat) : Int)) := ⟨by have := HDZ.out; have := HLT.out; unfold wrap64; omega⟩
      have HI64 : Aside0 (I64 (m : Int)) := ⟨by have := HZ.out; constructor <;> omega⟩
      have HBr := Aside0.mk HB.out.size
      clear hy hlt hrow0 hci hCi hrw hgk h9k
      go_wp2_with fail
      refine start_ (n := 10) (S := fun w' => Below wr.heap.size wr w' ∧ w'.cell? ⟨b6 + 1 + 1, 0, none⟩ = some (.map (some (b6 + 1))) ∧ w'.cell? ⟨w.heap.size, 0, none⟩ = some (.slice (some adH) has.length cH) ∧ w'.cell? ⟨w.heap.size, 1, none⟩ = some (.slice AR roots.length cR) ∧ w'.cell? (adH.add m) = some (.slice Ai row.length ci)) (ds := [9]) #[false, false, false, false, false, false, false, false, false, false] (by kernel_rfl) rfl rfl ⟨(below_drew (Below.refl _ _)), k9, g0, g1, hrow⟩ (fun hHeld => ?_)
      refine pure_ (i := 1) (N := some 32) (v := ?_) (a' := ?_) #[false, true, false, false, false, false, false, false, false, false] rfl rfl (by kernel_rfl) (fun _ _ _ h => h) (Or.inl ⟨by rfl, ?_⟩) ?_ ?_
      rotate_left
      · intro w'
        go_simp
        with_reducible rfl
      rotate_left
      · simp only [Act.put, List.setIfInBounds_toArray, List.set_cons_zero, List.set_cons_succ, i64_w, i32_w]
        rfl
      refine pure_ (i := 3) (N := some 34) (v := ?_) (a' := ?_) #[false, true, false, true, false, false, false, false, false, false] rfl rfl (by kernel_rfl) (fun _ _ _ h => h) (Or.inl ⟨by rfl, ?_⟩) ?_ ?_
      rotate_left
      · intro w'
        go_simp
        with_reducible rfl
      rotate_left
      · simp only [Act.put, List.setIfInBounds_toArray, List.set_cons_zero, List.set_cons_succ, i64_w, i32_w]
        rfl
      refine pure_ (i := 5) (N := some 36) (v := ?_) (a' := ?_) #[false, true, false, true, false, true, false, false, false, false] rfl rfl (by kernel_rfl) (fun _ _ _ h => h) (Or.inl ⟨by rfl, ?_⟩) ?_ ?_
      rotate_left
      · intro w'
        go_simp
        with_reducible rfl
      rotate_left
      · simp only [Act.put, List.setIfInBounds_toArray, List.set_cons_zero, List.set_cons_succ, i64_w, i32_w]
        rfl
      refine take_ (i := 0) (N := some 31) (v := ?_) (a' := ?_) #[true, true, false, true, false, true, false, false, false, false] rfl rfl (by kernel_rfl) (fun _ _ _ h => h) (Or.inl ⟨by rfl, ?_⟩) hHeld ?_ ?_
      rotate_left
      · rintro w' ⟨s0, s1, s2, s3, s4⟩
        go_simp
        with_reducible rfl
      rotate_left
      · simp only [Act.put, List.setIfInBounds_toArray, List.set_cons_zero, List.set_cons_succ, i64_w, i32_w]
        rfl
      refine take_ (i := 2) (N := some 33) (v := ?_) (a' := ?_) #[true, true, true, true, false, true, false, false, false, false] rfl rfl (by kernel_rfl) (fun _ _ _ h => h) (Or.inl ⟨by rfl, ?_⟩) hHeld ?_ ?_
      rotate_left
      · rintro w' ⟨s0, s1, s2, s3, s4⟩
        go_simp
        with_reducible rfl
      rotate_left
      · simp only [Act.put, List.setIfInBounds_toArray, List.set_cons_zero, List.set_cons_succ, i64_w, i32_w]
        rfl
      refine take_ (i := 4) (N := some 35) (v := ?_) (a' := ?_) #[true, true, true, true, true, true, false, false, false, false] rfl rfl (by kernel_rfl) (fun _ _ _ h => h) (Or.inl ⟨by rfl, ?_⟩) hHeld ?_ ?_
      rotate_left
      · rintro w' ⟨s0, s1, s2, s3, s4⟩
        go_simp
        with_reducible rfl
      rotate_left
      · simp only [Act.put, List.setIfInBounds_toArray, List.set_cons_zero, List.set_cons_succ, i64_w, i32_w]
        rfl
      refine pure_ (i := 6) (N := some 37) (v := ?_) (a' := ?_) #[true, true, true, true, true, true, true, false, false, false] rfl rfl (by kernel_rfl) (fun _ _ _ h => h) (Or.inl ⟨by rfl, ?_⟩) ?_ ?_
      rotate_left
      · intro w'
        go_simp
        with_reducible rfl
      rotate_left
      · simp only [Act.put, List.setIfInBounds_toArray, List.set_cons_zero, List.set_cons_succ, i64_w, i32_w]
        rfl
      refine take_ (i := 7) (N := some 38) (v := ?_) (a' := ?_) #[true, true, true, true, true, true, true, true, false, false] rfl rfl (by kernel_rfl) (fun _ _ _ h => h) (Or.inl ⟨by rfl, ?_⟩) hHeld ?_ ?_
      rotate_left
      · rintro w' ⟨s0, s1, s2, s3, s4⟩
        go_simp
        with_reducible rfl
      rotate_left
      · simp only [Act.put, List.setIfInBounds_toArray, List.set_cons_zero, List.set_cons_succ, i64_w, i32_w]
        rfl
      refine one_ (i := 8) (N := some 39) #[true, true, true, true, true, true, true, true, true, false] rfl rfl (by kernel_rfl) (by decide) (fun K hK => ?_)
      refine goes_ Try.func58 (by kernel_rfl) rfl #[.agg #[.slice (some adH) has.length cH, .slice AR roots.length cR], .slice Ai row.length ci] (by rfl) rfl rfl (by simp only [List.map_toArray, List.map_cons, List.map_nil]; rfl) ?_
      with_reducible refine (from_calls wr.drew (some adH) cH has AR roots.length cR Ai ci row (Kd.C_below HH.out (HB.out.trans (below_cut hHeld.1 HB.out.size))) (Kd.C_below HCI.out (HB.out.trans (below_cut hHeld.1 HB.out.size))) HCIc.out HHI.out HRI.out (by have := HZ.out; omega)).mono ?_
      rintro e w5 ⟨v5, rfl, ho5, hb5⟩
      refine ⟨_, rfl, ?_⟩
      have hb5' := below_step hHeld.1 hb5
      obtain ⟨A5, c5, e5⟩ := Kd.R_slice ho5
      subst e5
      have HO5 := Aside0.mk ho5
      have HB5 := Aside0.mk hb5'
      obtain ⟨w9, hrun9, hm9, hg9⟩ := run_put (t := 89) Try.underlying3 Try.underlying89 (HM.out.1.below hb5') (by have := HM.out.2; have := HLT.out; have := HDZ.out; unfold maxLen; omega) (m : Int) HI64.out (.slice A5 (fromL has row).length c5)
      have HM9 := Aside0.mk hm9
      have HG9 := Aside0.mk hg9
      refine hK.out _ _ ⟨hb5', pw_cell_below hb5 hHeld.2.1, pw_cell_below hb5 hHeld.2.2.1, pw_cell_below hb5 hHeld.2.2.2.1, pw_cell_below hb5 hHeld.2.2.2.2⟩ (fun hHeld => ?_)
      clear hK K
      refine norm_ (a' := ?_) ?_ ?_
      rotate_left
      · show Act.put _ (some 39) _ = _
        simp only [Act.put, List.setIfInBounds_toArray, List.set_cons_zero, List.set_cons_succ, i64_w, i32_w]
        rfl
      refine last_ (i := 9) (N := none) #[true, true, true, true, true, true, true, true, true, true] rfl rfl (by kernel_rfl) (by decide) (fun K hK => ?_)
      refine skip_ (w1 := w9) (by rfl) rfl ?_ ?_
      · first | (go_simp; done) | (go_simp; exact hrun9)
      refine hK.out _ _ ?_
      clear hK K
      refine done_ (by kernel_rfl) ?_
      clear hrun9
      have HFL : Aside0 ((fromL has row).length = has.length) := ⟨fromL_length has row⟩
      have HNE : Aside0 (b6 + 1 < w4.heap.size) := ⟨by have := HZ10.out; omega⟩
      have HK9 : Aside0 (w4.heap.size ≤ w9.heap.size ∧ ∀ k, k < w4.heap.size → k ≠ b6 + 1 → w9.heap[k]? = w4.heap[k]?) := ⟨Nat.le_trans HK.out.1 (Nat.le_trans HB5.out.size HG9.out.size), fun k hk hne => (HG9.out.block k (Nat.lt_of_lt_of_le hk (Nat.le_trans HK.out.1 HB5.out.size)) (fun e => hne (Option.some.inj e))).trans ((HB5.out.block k (Nat.lt_of_lt_of_le hk HK.out.1)).trans (HK.out.2 k hk hne))⟩
      have HB9 : Aside0 (Below w.heap.size w w9) := ⟨(below_step HB.out HB5.out).trans (grown_below HG9.out (Nat.le_trans HBr.out HB5.out.size) (fun k e => by injection e with e; have := HSB.out; omega))⟩
      have HF9 : Aside0 (∀ k ∈ D.take (i + 1), ∃ A c, (fun q => if q = (m : Int) then some (Value.slice A5 (fromL has row).length c5) else f q) k = some (.slice A has.length c) ∧ Kd.bool.R 4 w9 0 (fun j => j ≠ b6 + 1) (.slice A has.length c) (fromL has (has.getD k.toNat []))) := ⟨fun k hk => by
        have hstep : ∀ {W : World} {B : Nat} {v : Value} {xs : List Bool}, Kd.bool.R 4 w5 B (fun j => j ≠ b6 + 1) v xs → Kd.bool.R 4 w9 B (fun j => j ≠ b6 + 1) v xs := fun h_ => Kd.R_step h_ (fun j hj hlt => HG9.out.block j hlt (fun e => hj (Option.some.inj e)))
        by_cases ek : k = (m : Int)
        · subst ek
          refine ⟨A5, c5, by simp only [if_pos, HFL.out], ?_⟩
          rw [Int.toNat_natCast, ← HRW.out, ← HFL.out]
          refine hstep (W := w5) (Kd.R_lower (Kd.R_mono (Kd.R_bound HO5.out) (fun j hj e => ?_)) (Nat.zero_le _))
          have h1 := hj.2.1
          have h2 := HK.out.1
          have h3 := HNE.out
          have h4 : wr.drew.heap.size = wr.heap.size := rfl
          omega
        · rcases HTK.out k hk with h_ | h_
          · obtain ⟨A', c', g1, g2⟩ := HF.out k h_
            exact ⟨A', c', by simp only [if_neg ek]; exact g1, hstep (W := w5) (Kd.R_below g2 HB5.out)⟩
          · exact absurd h_ ek⟩
      go_wp2_with fail
      go_roundg (D.length - (i + 1))
      case measure => have := HIQ.out; have := HLT.out; omega
      case rel => exact ⟨i + 1, n + 1, _, by first | rfl | rw [HW64.out], ⟨by have := HLT.out; omega, rfl⟩, ⟨HM9.out, by have := HM.out.2; omega⟩, HF9, HK9, HB9⟩
    · have e_ : i = D.length := by have := HIQ.out; omega
      subst e_
      have hdec : decide ((D.length : Int) < (D.length : Int)) = false := decide_eq_false (by omega)
      have hdec2 : decide (D.length < D.length) = false := decide_eq_false hlt
      have HHAD : Aside0 (Had wr wr.heap.size (b6 + 1 + 1) (b6 + 1) has D) := ⟨by
        refine ⟨(HK.out.2 (b6 + 1 + 1) (by have := HZ10.out; omega) (by omega)).trans H9b.out, ⟨n, f, HM.out.1, fun k hk => ?_⟩, by have := HZ10.out; have := HK.out.1; omega, by have := HZ10.out; have := HK.out.1; omega⟩
        obtain ⟨A', c', g1, g2⟩ := HF.out k (by rw [List.take_length]; exact hk)
        exact ⟨A', c', g1, Kd.R_mono (Kd.R_bound g2) (fun j hj => hj.2.2.1)⟩⟩
      have H6r := Aside0.mk ((HK.out.2 b6 (by have := HZ10.out; omega) (by omega)).trans H6b.out)
      have HRr : Aside0 ((Kd.int .i64).R 3 wr w.heap.size (fun _ => True) (.slice A1 D.length c1) D) := ⟨Kd.R_lower (R_flat rfl HR4.out (fun k hk2 => HK.out.2 k (Kd.R_lt HR4.out k hk2) (fun e => by have := Kd.R_lt HR1.out k hk2; have := HB6.out; omega))) (by have := HSW.out; omega)⟩
      have HI6 : Aside0 (∀ k ∈ D, I64 k) := ⟨fun k hk => by have h_ := HDI.out k hk; have := HZ.out; constructor <;> omega⟩
      obtain ⟨T, hT⟩ : ∃ T, T = roundsL has D.length D := ⟨_, rfl⟩
      have HTT := Aside0.mk hT
      have HT : Aside0 (([] : List (List Int)) ++ roundsL has D.length D = T) := ⟨hT.symm⟩
      obtain ⟨N, hN⟩ : ∃ N, N = wr.heap.size := ⟨_, rfl⟩
      rw [← hN] at HHAD
      have HNN := Aside0.mk hN
      have HB6N : Aside0 (b6 < N) := ⟨by have := HZ10.out; have := HK.out.1; omega⟩
      have HBr := Aside0.mk HB.out
      clear hlt HIQ HF HM HK HB hT hmm2 hN
      go_wp2_with fail
      go_loopg [12] D.length (fun kq v12 W => ∃ (left : List Int) (Al : Option Addr) (cl_ : Nat) (os : List (List Int)) (Ao : Option Addr) (co : Nat), v12 = .slice Ao os.length co ∧ Aside0 (kq = left.length) ∧ Aside0 (W.heap[b6]? = some (.cells #[.slice Al left.length cl_] 29 (0, 0))) ∧ Aside0 ((Kd.int .i64).R 3 W w.heap.size (fun _ => True) (.slice Al left.length cl_) left) ∧ Aside0 (Had W N (b6 + 1 + 1) (b6 + 1) has D) ∧ Aside0 (Kd.S KH 29 W w.heap.size (fun k => some k ≠ (Value.slice Al left.length cl_).ownBlock ∧ k ≠ b6) (.slice Ao os.length co) os) ∧ Aside0 (os ++ roundsL has left.length left = T) ∧ Aside0 (∀ k ∈ left, k ∈ D) ∧ Aside0 (left.length ≤ 100 ∧ os.length + left.length ≤ 100) ∧ Aside0 (Below w.heap.size w W ∧ N ≤ W.heap.size))
      case atStart => exact ⟨D, A1, c1, [], none, 0, rfl, ⟨rfl⟩, H6r, HRr, HHAD, ⟨Kd.S_nil _ _ _ _ _⟩, HT, ⟨fun k hk => hk⟩, ⟨HDZ.out, by have := HDZ.out; simpa using this⟩, ⟨HBr.out, Nat.le_of_eq HNN.out⟩⟩
      case round =>
        clear H6r HRr HHAD HT HBr HNN HCD HR4 HMB HR1 H6b H9b HG4
        obtain ⟨left, Al, cl_, os, Ao, co, rfl, HQ, H6, HRL, HHD, HSO, HTO, HSUB, HLZ, HBB⟩ := hrel
        have y6 := (blk_cell H6.out 0).trans rfl
        by_cases h0 : left.length = 0
        · have hd0 : decide ((0 : Int) < (left.length : Int)) = false := decide_eq_false (by omega)
          have hd1 : decide (0 < left.length) = false := decide_eq_false (by omega)
          have HE : Aside0 (os = T) := ⟨by have h_ := HTO.out; rw [h0] at h_; simpa [roundsL] using h_⟩
          have HS2 := Aside0.mk (Kd.S_mono HSO.out (ok' := fun _ => True) (fun _ _ => trivial))
          have HBE := Aside0.mk HBB.out.1
          clear h0 HSO
          go_wp2_with fail
          go_ret2
          refine ⟨_, rfl, ?_, HBE.out⟩
          rw [← HDD.out, ← HTT.out, ← HE.out]
          exact HS2.out
        · have hd0 : decide ((0 : Int) < (left.length : Int)) = true := decide_eq_true (by omega)
          have hd1 : decide (0 < left.length) = true := decide_eq_true (by omega)
          have HST := Aside0.mk (rounds_step (has := has) h0)
          have HNX := Aside0.mk (nextL_lt (has := has) h0)
          have HNS := Aside0.mk (nowL_sub has left)
          have HNZ := Aside0.mk (nowL_len has left)
          have HLE := Aside0.mk (Kd.R_reads' HRL.out).2.2
          have HCL := Aside0.mk (slices_Clone_int_int.calls Al cl_ left left wr HLE.out (Kd.R_reads' HRL.out).2.1 (clone_f left (by have := HLZ.out.1; omega)))
          clear h0
          go_wp2_with fail
          refine HCL.out.mono ?_
          rintro e w5 ⟨v5, rfl, hR5, hb5⟩
          have HB5 := Aside0.mk hb5
          have HO5 := Aside0.mk (Kd.own_of_R hR5)
          have HV5 := Aside0.mk (Kd.R_base hR5)
          have HLT := Aside0.mk (Kd.R_lt HRL.out)
          have HPR : Aside0 (PrI 61 #[.pointer (some ⟨b6, 0, none⟩), .pointer (some ⟨b6 + 1 + 1, 0, none⟩)] (hadB has left) left (fun k => v5.ownBlock = some k) w5) := ⟨fun W hs hk x hx => by
            have hold : ∀ k, k < wr.heap.size → W.heap[k]? = wr.heap[k]? := fun k hkw => (hk k (Nat.lt_of_lt_of_le hkw HB5.out.size) (fun e => by have := HV5.out k e; omega)).trans (HB5.out.block k hkw)
            exact had_calls W N b6 (b6 + 1 + 1) (b6 + 1) Al cl_ left has D x (HHD.out.same (fun k hkN => .inr (hold k (Nat.lt_of_lt_of_le hkN HBB.out.2)))) (Nat.le_trans HBB.out.2 (Nat.le_trans HB5.out.size hs)) ((hold b6 (Nat.lt_of_lt_of_le HB6N.out HBB.out.2)).trans H6.out)
              (Kd.R_reads' (R_flat rfl HRL.out (fun k hk2 => hold k (HLT.out k hk2)))).2.2 HSUB.out HI6.out (HDI.out x (HSUB.out x hx)) (by have := HLZ.out.1; omega)⟩
          have HDF := Aside0.mk (del_calls 61 #[.pointer (some ⟨b6, 0, none⟩), .pointer (some ⟨b6 + 1 + 1, 0, none⟩)] (hadB has left) (Go.Proofs.enters_of Try.func61 (by kernel_rfl) rfl) w5 wr.heap.size v5 left HO5.out HPR.out (by have := HLZ.out.1; omega) HB5.out.size)
          have HNW : Aside0 (nowL has left = if (left.filter (fun n => !hadB has left n)).length = 0 then left else left.filter (fun n => !hadB has left n)) := ⟨rfl⟩
          obtain ⟨fl, hfl⟩ : ∃ fl, fl = left.filter (fun n => !hadB has left n) := ⟨_, rfl⟩
          rw [← hfl] at HDF HNW
          have y6' := pw_cell_below HB5.out y6
          clear hR5 hb5 HCL hfl HPR y6
          go_wp2_with fail
          refine HDF.out.mono ?_
          rintro e w6 ⟨v6, rfl, ho6, hv6, hf6, hb6⟩
          obtain ⟨A6, c6, e6, hc6⟩ := own_shapeH ho6
          subst e6
          have hb56 := HB5.out.trans hb6
          have hb7 := below_alloc hb56 (Obj.cells #[.slice A6 fl.length c6] 29)
          have HB7 := Aside0.mk hb7
          have HB56 := Aside0.mk hb56
          have H13 := Aside0.mk (blk_new w6 (Obj.cells #[.slice A6 fl.length c6] 29))
          have HO7 := Aside0.mk (ho6.alloc (Obj.cells #[.slice A6 fl.length c6] 29))
          have HS6 := Aside0.mk hb56.size
          have H67 := Aside0.mk (blk_deeper H6.out hb7 (Nat.lt_of_lt_of_le HB6N.out HBB.out.2))
          have z6 := (blk_cell H67.out 0).trans rfl
          have z13 := (blk_cell H13.out 0).trans rfl
          have z13f := blk_frozen H13.out 0
          have HZ7 : Aside0 ((w6.alloc (Obj.cells #[.slice A6 fl.length c6] 29)).heap.size = w6.heap.size + 1) := ⟨blk_size⟩
          clear ho6 hv6 hf6 hb6 hc6 hb56 hb7 HDF y6'
          go_upto_if 50 with fail
          go_cut [] (fun wx => ∃ (An : Option Addr) (cn : Nat), Aside0 (wx.heap[w6.heap.size]? = some (.cells #[.slice An (nowL has left).length cn] 29 (0, 0))) ∧ Aside0 (wx.ownsRow w.heap.size 3 1 (.slice An (nowL has left).length cn) (nowL has left).length ((nowL has left).map (Value.int .i64))) ∧ Aside0 (∀ k, (Value.slice An (nowL has left).length cn).ownBlock = some k → k < wr.heap.size → (Value.slice Al left.length cl_).ownBlock = some k) ∧ Aside0 (Below wr.heap.size wr wx))
          case first =>
            by_cases hz : fl.length = 0
            · have hzb : ((fl.length : Int) == 0) = true := by simpa using hz
              have HNE : Aside0 (nowL has left = left) := ⟨by rw [HNW.out, if_pos hz]⟩
              have HOL := Aside0.mk ((Kd.own_of_R (Kd.R_below HRL.out HB56.out)).alloc (Obj.cells #[.slice Al left.length cl_] 29))
              clear hz
              go_wp2_with fail
              go_meet
              rw [HNE.out]
              refine ⟨Al, cl_, ⟨blk_new w6 _⟩, HOL, ⟨fun k hk _ => hk⟩, ⟨below_alloc HB56.out _⟩⟩
            · have hzb : ((fl.length : Int) == 0) = false := by simpa using hz
              have HNE : Aside0 (nowL has left = fl) := ⟨by rw [HNW.out, if_neg hz]⟩
              clear hz
              go_wp2_with fail
              go_meet
              rw [HNE.out]
              refine ⟨A6, c6, H13, ⟨own_lowH HO7.out HBB.out.1.size⟩, ⟨fun k hk hlt => by have := (HO7.out.lt k hk).1; omega⟩, HB7⟩
          case rest =>
          obtain ⟨An, cn, HN13, HNO, HNK, HBN⟩ := hcut
          obtain ⟨now, hnow⟩ : ∃ now, now = nowL has left := ⟨_, rfl⟩
          have HNQ := Aside0.mk hnow
          rw [← hnow] at HN13 HNO HNK HNS HNZ HST
          have HNXQ : Aside0 (nextL has left = left.filter (fun n => !now.contains n)) := ⟨by rw [hnow]; rfl⟩
          have HWS := Aside0.mk HBN.out.size
          have hn0 := (blk_cell HN13.out 0).trans rfl
          have HSN : Aside0 (Kd.S KH 29 wc w.heap.size (fun k => (k ≠ b6) ∧ ¬ some k = (Value.slice An now.length cn).ownBlock) (.slice Ao os.length co) os) := ⟨Kd.S_mono (Kd.S_step (Kd.S_bound HSO.out) (fun k hk hlt => HBN.out.block k hlt)) (fun k hk => ⟨hk.1.2, fun e => hk.1.1 (HNK.out k e.symm hk.2.2.1).symm⟩)⟩
          have HU2 := Try.underlying36
          have HBC : Aside0 (Below w.heap.size w wc) := ⟨HBB.out.1.trans (below_cut HBN.out HBB.out.1.size)⟩
          have HOT := Aside0.mk (own_typedH HNO.out)
          have HVT := Aside0.mk (Kd.S_typed HSN.out)
          have H6c := Aside0.mk (blk_deeper H6.out HBN.out (Nat.lt_of_lt_of_le HB6N.out HBB.out.2))
          clear hnow HNW HO5 HV5 HB5 HO7 H13 HB7 HB56 H67 z6 z13 z13f HZ7
          go_wp2_with (first | ((with_reducible refine gate_builtin (b := .append) (xs := #[.tmp 52, .tmp 54]) rfl ?_); refine Kd.S_append KH (w0 := w) w.heap.size rfl (.tmp 52) (.tmp 54) 36 29 (.slice none 0 0) 24 rfl HU2 info_sl rfl (by decide) (by decide) (.slice Ao os.length co) os now [.slice An now.length cn] (fun k => k ≠ b6) (fun k => some k = (Value.slice An now.length cn).ownBlock) rfl ?hx ?hp ?hok ?hfr HSN.out HBC.out ?hbs ?hl ?_; (case hx => rfl); (case hp => exact ⟨_, rfl, Kd.R_of_own (enc := Value.int .i64) (h1 := fun _ => rfl) HNO.out (fun k hk => hk.symm)⟩); (case hok => exact fun k hk => ⟨fun e => (by obtain ⟨cs, hc⟩ := HOT.out k hk.symm; exact blk_ne hc H6c.out (by decide) e), fun e => (by obtain ⟨cs, hc⟩ := HOT.out k hk.symm; obtain ⟨cs2, hc2⟩ := HVT.out k e.symm; exact blk_ne hc hc2 (by decide) rfl)⟩); (case hfr => exact fun k hk e => (by have h_ := blk_lt H6c.out; omega)); (case hbs => exact HBC.out.size); (case hl => have := HLZ.out; omega); intro v9 w9 ho9 hb9 hg9 hat9; obtain ⟨A9, c9, e9⟩ := Kd.R_slice (Kd.S_R ho9); subst e9; have HS9 := Aside0.mk ho9; have HB9 := Aside0.mk hb9; have HG9 := Aside0.mk hg9; have H69 := Aside0.mk (blk_grown H6c.out hg9 (fun e => ((Kd.S_R HSN.out).1 b6 e.symm).1 rfl)); have H139 := Aside0.mk (blk_grown HN13.out hg9 (fun e => by have h1_ := Kd.S_lt HSO.out _ e.symm; have h2_ := HS6.out; omega)); have z6 := (blk_cell H69.out 0).trans rfl; clear ho9 hb9 hg9 hat9))
          have HRL9 : Aside0 ((Kd.int .i64).R 3 w9 w.heap.size (fun _ => True) (.slice Al left.length cl_) left) := ⟨R_flat rfl HRL.out (fun k hk => by
            have h1 : wc.heap[k]? = wr.heap[k]? := HBN.out.block k (HLT.out k hk)
            refine (HG9.out.block k (Nat.lt_of_lt_of_le (HLT.out k hk) HWS.out) (fun e => ?_)).trans h1
            obtain ⟨cs, hc⟩ := Kd.R_typed HRL.out k hk
            obtain ⟨cs2, hc2⟩ := HVT.out k e.symm
            exact blk_ne (h1.trans hc) hc2 (by decide) rfl)⟩
          have HHD9 : Aside0 (Had w9 N (b6 + 1 + 1) (b6 + 1) has D) := ⟨HHD.out.same (fun k hk => by
            have hkr : k < wr.heap.size := Nat.lt_of_lt_of_le hk HBB.out.2
            have h1 : wc.heap[k]? = wr.heap[k]? := HBN.out.block k hkr
            by_cases e : some k = (Value.slice Ao os.length co).ownBlock
            · obtain ⟨cs, hc⟩ := HVT.out k e.symm
              exact .inl ⟨cs, h1.symm.trans hc⟩
            · exact .inr ((HG9.out.block k (Nat.lt_of_lt_of_le hkr HWS.out) e).trans h1))⟩
          have HNO9 : Aside0 (w9.ownsRow w.heap.size 3 1 (.slice An now.length cn) now.length (now.map (Value.int .i64))) := ⟨own_sameH HNO.out (fun k hk => HG9.out.block k (HNO.out.lt k hk).2 (fun e => by
            obtain ⟨cs, hc⟩ := HOT.out k hk
            obtain ⟨cs2, hc2⟩ := HVT.out k e.symm
            exact blk_ne hc hc2 (by decide) rfl))⟩
          have HLE9 := Aside0.mk (Kd.R_reads' HRL9.out).2.2
          have HCL2 := Aside0.mk (slices_Clone_int_int.calls Al cl_ left left w9 HLE9.out (Kd.R_reads' HRL9.out).2.1 (clone_f left (by have := HLZ.out.1; omega)))
          refine HCL2.out.mono ?_
          rintro e w10 ⟨v10, rfl, hR10, hb10⟩
          have HB10 := Aside0.mk hb10
          have HO10 := Aside0.mk (Kd.own_of_R hR10)
          have HV10 := Aside0.mk (Kd.R_base hR10)
          have H1310 := Aside0.mk (blk_below H139.out hb10)
          have HNO10 : Aside0 (w10.ownsRow w.heap.size 3 1 (.slice An now.length cn) now.length (now.map (Value.int .i64))) := ⟨own_sameH HNO9.out (fun k hk => hb10.block k (HNO9.out.lt k hk).2)⟩
          have HPR2 : Aside0 (PrI 63 #[.pointer (some ⟨w6.heap.size, 0, none⟩)] (fun n => now.contains n) left (fun k => v10.ownBlock = some k) w10) := ⟨fun W hs hk x hx => by
            have hold : ∀ k, k < w9.heap.size → W.heap[k]? = w10.heap[k]? := fun k hkw => hk k (Nat.lt_of_lt_of_le hkw HB10.out.size) (fun e => by have := HV10.out k e; omega)
            exact among_calls W w6.heap.size An cn now x ((hold _ (blk_lt H139.out)).trans H1310.out) w.heap.size (own_sameH HNO10.out (fun k hk2 => hold k (HNO9.out.lt k hk2).2)) (by have := HLZ.out.1; have := HNZ.out; omega)⟩
          have HDF2 := Aside0.mk (del_calls 63 #[.pointer (some ⟨w6.heap.size, 0, none⟩)] (fun n => now.contains n) (Go.Proofs.enters_of Try.func63 (by kernel_rfl) rfl) w10 w9.heap.size v10 left HO10.out HPR2.out (by have := HLZ.out.1; omega) hb10.size)
          obtain ⟨nx, hnx⟩ : ∃ nx, nx = nextL has left := ⟨_, rfl⟩
          have HNXE : Aside0 (left.filter (fun n => !now.contains n) = nx) := ⟨by rw [hnx, HNXQ.out]⟩
          rw [HNXE.out] at HDF2
          rw [← hnx] at HST HNX
          have HSBN : Aside0 (∀ k ∈ nx, k ∈ left) := ⟨fun k hk => by rw [← HNXE.out] at hk; exact (List.mem_filter.1 hk).1⟩
          clear hR10 hb10 HCL2 hnx HPR2 z6 hn0
          go_wp2_with fail
          refine HDF2.out.mono ?_
          rintro e w11 ⟨v11, rfl, ho11, hv11, hf11, hb11⟩
          obtain ⟨A11, c11, e11, hc11⟩ := own_shapeH ho11
          subst e11
          have hb911 := HB10.out.trans hb11
          have HB911 := Aside0.mk hb911
          have H611 := Aside0.mk (blk_deeper H69.out hb911 (blk_lt H69.out))
          have HO11 := Aside0.mk ho11
          have z11 := (blk_cell H611.out 0).trans rfl
          have z11f := blk_frozen H611.out 0
          clear ho11 hv11 hf11 hb11 hb911 hc11 HDF2
          go_wp2_with fail
          go_roundg nx.length
          case measure => have := HQ.out; have := HNX.out; omega
          case rel =>
            have hR11 : (Kd.int .i64).R 3 w11 w.heap.size (fun _ => True) (.slice A11 nx.length c11) nx := Kd.R_lower (Kd.R_of_own (enc := Value.int .i64) (h1 := fun _ => rfl) HO11.out (fun _ _ => trivial)) HB9.out.size
            have hS11 := Kd.S_mono (Kd.S_step (Kd.S_bound HS9.out) (fun k hk hlt => HB911.out.block k hlt)) (ok' := fun k => some k ≠ (Value.slice A11 nx.length c11).ownBlock ∧ k ≠ b6) (fun k hk => ⟨fun e => by have h1_ := (HO11.out.lt k e.symm).1; have h2_ := hk.2.2.1; omega, hk.1⟩)
            refine ⟨nx, A11, c11, os ++ [now], A9, c9, by simp, ⟨rfl⟩, ⟨blk_put H611.out 0 _ rfl⟩, ⟨Kd.R_set hR11 H611.out (by simp [Kd.int, Kd.scalar]) 0 _⟩, ⟨?_⟩, ⟨Kd.S_far (p := ⟨b6, 0, none⟩) (by simpa using hS11) (fun k hk => hk.2) _⟩, ⟨by rw [← HTO.out, HST.out, List.append_assoc]; rfl⟩, ⟨fun k hk => HSUB.out k (HSBN.out k hk)⟩, ⟨by have := HLZ.out; have := HNX.out; simp; omega⟩, ⟨(HB9.out.trans (below_cut HB911.out HB9.out.size)).setCell (p := ⟨b6, 0, none⟩) (by have := HSB.out; show w.heap.size ≤ b6; omega) _, ?_⟩⟩
            · refine (HHD9.out.same (W1 := w11.setCell ⟨b6, 0, none⟩ _) (fun k hk => ?_))
              by_cases e : k = b6
              · subst e; exact .inl ⟨_, H69.out⟩
              · exact .inr ((heap_setCell_other _ _ k _ e).trans (HB911.out.block k (Nat.lt_of_lt_of_le hk (Nat.le_trans HBB.out.2 (Nat.le_trans HWS.out HG9.out.size)))))
            · have h1 := HB911.out.size; have h2 := HG9.out.size; have h3 := HWS.out; have h4 := HBB.out.2; simp; omega
/-! ### In the printer's words -/
def roundsR (has : List (List Int)) (roots l : List Int) : List (List Int) := if dueE has roots l = 0 then roundsL has (dueL has roots l).length (dueL has roots l) else []
theorem Rounds_calls (w : World) (AH : Option Addr) (cH : Nat) (has : List (List Int)) (AR : Option Addr) (cR : Nat) (roots : List Int) (A : Option Addr) (c : Nat) (l : List Int)
    (hH : KH.C w AH has.length has) (hcH : has.length ≤ cH) (hR : (Kd.int .i64).C w AR roots.length roots) (hcR : roots.length ≤ cR) (hl : (Kd.int .i64).C w A l.length l) (hlc : l.length ≤ c) :
    Calls Try.prog 36 #[.agg #[.slice AH has.length cH, .slice AR roots.length cR], .slice A l.length c] w fun e w' => ∃ v0_ : Value, e = .returned (.tuple #[v0_, .int .i64 (dueE has roots l)]) ∧ Kd.S KH 29 w' w.heap.size (fun _ => True) v0_ (roundsR has roots l) ∧ Below w.heap.size w w' := by
  by_cases hE : dueE has roots l = 0
  · refine (Rounds_ok w AH cH has AR cR roots A c l hH hcH hR hcR hl hlc hE).mono ?_
    rintro e w' ⟨v, he, h1, hb⟩
    unfold roundsR
    rw [if_pos hE, hE]
    exact ⟨v, he, h1, hb⟩
  · refine (Rounds_err w AH cH has AR cR roots A c l hH hcH hR hcR hl hlc hE).mono ?_
    rintro e w' ⟨he, hb⟩
    unfold roundsR
    rw [if_neg hE]
    exact ⟨_, he, Kd.S_nil _ _ _ _ _, hb⟩
end Go.Proofs.Ytnimidkeoocchaa.End
