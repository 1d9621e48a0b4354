/- The law function WordsMore: what it answers. -/
import Derived.Test.YtkefekdphkclmaaHand
import Derived.Test.YtkefekdphkclmaaPC4
import Derived.Test.YtkefekdphkclmaaPC5
import Derived.Test.YtkefekdphkclmaaPC9
import Derived.Deep.DeepCutAuto
import Derived.RegionTactic
set_option linter.unusedVariables false
set_option linter.unusedSimpArgs false
namespace Go.Proofs.Ytkefekdphkclmaa.PC
open Go.RowKit Go.Proofs.YtkefekdphkclmaaW.PrintWords Go.Proofs.YtkefekdphkclmaaW.PrintLast Go.Proofs.YtkefekdphkclmaaW.PrintMore Go.Proofs.Ytkefekdphkclmaa.Hnd

/-- What makes WordsMore answer true. -/
def wordsMoreOk (k : Nat) (a0_0 a0_1 : Int) (l0_2 : List (S27)) (l0_3 : List (S30)) (v : S27) (f : S30) : Prop :=
  backstitchkeep3_worded.f k = some true ∧ l0_2.length < 8796093022207 ∧ l0_3.length < 1466015503700 ∧ f.f5.length ≤ 8796093022208 ∧ f.f6.length ≤ 8796093022208 ∧ ∃ ws e x g y h, words_Of.f k a0_0 a0_1 l0_2 l0_3 = some (ws, e) ∧ words_Of.f k a0_0 a0_1 (l0_2 ++ [v]) l0_3 = some (x, g) ∧ words_Of.f k a0_0 a0_1 l0_2 (l0_3 ++ [f]) = some (y, h) ∧
    (e = 0 → ws.length ≤ 1000000 ∧ (g = 0 → x.length = ws.length + 1) ∧ (h = 0 → (y.length : Int) = (ws.length : Int) + 7 + (f.f5.length : Int) + 2 * (f.f6.length : Int)))
open Classical in
noncomputable def backstitchkeep3_WordsMore.f (k : Nat) (a0_0 a0_1 : Int) (l0_2 : List (S27)) (l0_3 : List (S30)) (a1_0 a1_1 : Int) (a2_0 a2_1 a2_2 a2_3 a2_4 a2_5 : Int) (l2_6 : List (S27)) (l2_7 : List (S110)) : Option Bool :=
  if wordsMoreOk k a0_0 a0_1 l0_2 l0_3 ⟨a1_0, a1_1⟩ ⟨a2_0, a2_1, a2_2, a2_3, ⟨a2_4, a2_5⟩, l2_6, l2_7⟩ then some true else none
theorem info_val : (Try.prog.info? 27).map (fun i => (i.zero, i.size, i.bytes)) = some (some (.agg #[.int .i64 0, .int .i64 0]), 2, 16) := by kernel_rfl
theorem info_frame : (Try.prog.info? 30).map (fun i => (i.zero, i.size, i.bytes)) = some (some (.agg #[.int .i64 0, .int .i64 0, .int .i64 0, .int .i64 0, .int .i64 0, .int .i64 0, .slice none 0 0, .slice none 0 0]), 8, 96) := by kernel_rfl
theorem heap27 : Kd.Heap k27 := Kd.heap_iso _ (Kd.heap_pair (Kd.heap_int _) (Kd.heap_int _))
theorem heap110 : Kd.Heap k110 := Kd.heap_iso _ (Kd.heap_pair (Kd.heap_int _) (Kd.heap_int _))
theorem heap30 : Kd.Heap k30 := Kd.heap_iso _ (Kd.heap_pair (Kd.heap_int _) (Kd.heap_pair (Kd.heap_int _) (Kd.heap_pair (Kd.heap_int _) (Kd.heap_pair (Kd.heap_int _) (Kd.heap_pair heap27 (Kd.heap_pair (Kd.heap_slice _ heap27) (Kd.heap_slice _ heap110)))))))
set_option maxHeartbeats 16000000 in
set_option maxRecDepth 100000 in
theorem backstitchkeep3_WordsMore.calls (k : Nat) (a0_0 a0_1 : Int) (A0_2 : Option Addr) (c0_2 : Nat) (l0_2 : List (S27)) (A0_3 : Option Addr) (c0_3 : Nat) (l0_3 : List (S30)) (a1_0 a1_1 : Int) (a2_0 a2_1 a2_2 a2_3 a2_4 a2_5 : Int) (A2_6 : Option Addr) (c2_6 : Nat) (l2_6 : List (S27)) (A2_7 : Option Addr) (c2_7 : Nat) (l2_7 : List (S110)) (r : Bool) (w : World)
    (hr0_2 : Kd.C k27 w A0_2 l0_2.length l0_2) (hc0_2 : l0_2.length ≤ c0_2) (hr0_3 : Kd.C k30 w A0_3 l0_3.length l0_3) (hc0_3 : l0_3.length ≤ c0_3)
    (hr2_6 : Kd.C k27 w A2_6 l2_6.length l2_6) (hc2_6 : l2_6.length ≤ c2_6) (hr2_7 : Kd.C k110 w A2_7 l2_7.length l2_7) (hc2_7 : l2_7.length ≤ c2_7)
    (h : backstitchkeep3_WordsMore.f k a0_0 a0_1 l0_2 l0_3 a1_0 a1_1 a2_0 a2_1 a2_2 a2_3 a2_4 a2_5 l2_6 l2_7 = some r) :
    Calls Try.prog 3 #[.agg #[.int .i64 a0_0, .int .i64 a0_1, .slice A0_2 l0_2.length c0_2, .slice A0_3 l0_3.length c0_3], .agg #[.int .i64 a1_0, .int .i64 a1_1], .agg #[.int .i64 a2_0, .int .i64 a2_1, .int .i64 a2_2, .int .i64 a2_3, .int .i64 a2_4, .int .i64 a2_5, .slice A2_6 l2_6.length c2_6, .slice A2_7 l2_7.length c2_7]] w fun e w' => e = .returned (.bool r) ∧ Below w.heap.size w w' := by
  unfold backstitchkeep3_WordsMore.f at h
  have hok : wordsMoreOk k a0_0 a0_1 l0_2 l0_3 ⟨a1_0, a1_1⟩ ⟨a2_0, a2_1, a2_2, a2_3, ⟨a2_4, a2_5⟩, l2_6, l2_7⟩ := by
    by_cases hx : wordsMoreOk k a0_0 a0_1 l0_2 l0_3 ⟨a1_0, a1_1⟩ ⟨a2_0, a2_1, a2_2, a2_3, ⟨a2_4, a2_5⟩, l2_6, l2_7⟩
    · exact hx
    · rw [if_neg hx] at h; exact absurd h (by simp)
  rw [if_pos hok] at h
  obtain rfl := Option.some.inj h
  obtain ⟨hw, hz2, hz3, hz5, hz6, ws, e, x, g, y, z, hf1, hf2, hf3, hE⟩ := hok
  have HW := Aside0.mk hw
  have HZ := Aside0.mk (And.intro hz2 (And.intro hz3 (And.intro hz5 hz6)))
  have HF1 := Aside0.mk hf1
  have HF2 := Aside0.mk hf2
  have HF3 := Aside0.mk hf3
  have HE := Aside0.mk hE
  have R2 := Aside0.mk hr0_2
  have R3 := Aside0.mk hr0_3
  have R6 := Aside0.mk hr2_6
  have R7 := Aside0.mk hr2_7
  have C2 := Aside0.mk hc0_2
  have C3 := Aside0.mk hc0_3
  have C6 := Aside0.mk hc2_6
  have C7 := Aside0.mk hc2_7
  have hU := Try.underlying22
  have hU3 := Try.underlying23
  clear hw hz2 hz3 hz5 hz6 hf1 hf2 hf3 hE hr0_2 hr0_3 hr2_6 hr2_7 hc0_2 hc0_3 hc2_6 hc2_7 h
  go_enter Try.func3, Try.ntmps3
  go_wp2_with fail
  have hB0 : Below w.heap.size w (((w.alloc (Obj.cells #[.int .i64 a0_0, .int .i64 a0_1, .slice A0_2 l0_2.length c0_2, .slice A0_3 l0_3.length c0_3] 25)).alloc (Obj.cells #[.int .i64 a1_0, .int .i64 a1_1] 27)).alloc (Obj.cells #[.int .i64 a2_0, .int .i64 a2_1, .int .i64 a2_2, .int .i64 a2_3, .int .i64 a2_4, .int .i64 a2_5, .slice A2_6 l2_6.length c2_6, .slice A2_7 l2_7.length c2_7] 30)) := below_alloc (below_alloc (below_alloc (Below.refl _ _) _) _) _
  have hk0 : (((w.alloc (Obj.cells #[.int .i64 a0_0, .int .i64 a0_1, .slice A0_2 l0_2.length c0_2, .slice A0_3 l0_3.length c0_3] 25)).alloc (Obj.cells #[.int .i64 a1_0, .int .i64 a1_1] 27)).alloc (Obj.cells #[.int .i64 a2_0, .int .i64 a2_1, .int .i64 a2_2, .int .i64 a2_3, .int .i64 a2_4, .int .i64 a2_5, .slice A2_6 l2_6.length c2_6, .slice A2_7 l2_7.length c2_7] 30)).heap[w.heap.size]? = some (Obj.cells #[.int .i64 a0_0, .int .i64 a0_1, .slice A0_2 l0_2.length c0_2, .slice A0_3 l0_3.length c0_3] 25) := blk_alloc (blk_alloc (heap_alloc_new w _) _) _
  have hk1 : (((w.alloc (Obj.cells #[.int .i64 a0_0, .int .i64 a0_1, .slice A0_2 l0_2.length c0_2, .slice A0_3 l0_3.length c0_3] 25)).alloc (Obj.cells #[.int .i64 a1_0, .int .i64 a1_1] 27)).alloc (Obj.cells #[.int .i64 a2_0, .int .i64 a2_1, .int .i64 a2_2, .int .i64 a2_3, .int .i64 a2_4, .int .i64 a2_5, .slice A2_6 l2_6.length c2_6, .slice A2_7 l2_7.length c2_7] 30)).heap[w.heap.size + 1]? = some (Obj.cells #[.int .i64 a1_0, .int .i64 a1_1] 27) := by simpa using blk_alloc (heap_alloc_new (w.alloc (Obj.cells #[.int .i64 a0_0, .int .i64 a0_1, .slice A0_2 l0_2.length c0_2, .slice A0_3 l0_3.length c0_3] 25)) (Obj.cells #[.int .i64 a1_0, .int .i64 a1_1] 27)) (Obj.cells #[.int .i64 a2_0, .int .i64 a2_1, .int .i64 a2_2, .int .i64 a2_3, .int .i64 a2_4, .int .i64 a2_5, .slice A2_6 l2_6.length c2_6, .slice A2_7 l2_7.length c2_7] 30)
  have hk2 : (((w.alloc (Obj.cells #[.int .i64 a0_0, .int .i64 a0_1, .slice A0_2 l0_2.length c0_2, .slice A0_3 l0_3.length c0_3] 25)).alloc (Obj.cells #[.int .i64 a1_0, .int .i64 a1_1] 27)).alloc (Obj.cells #[.int .i64 a2_0, .int .i64 a2_1, .int .i64 a2_2, .int .i64 a2_3, .int .i64 a2_4, .int .i64 a2_5, .slice A2_6 l2_6.length c2_6, .slice A2_7 l2_7.length c2_7] 30)).heap[w.heap.size + 1 + 1]? = some (Obj.cells #[.int .i64 a2_0, .int .i64 a2_1, .int .i64 a2_2, .int .i64 a2_3, .int .i64 a2_4, .int .i64 a2_5, .slice A2_6 l2_6.length c2_6, .slice A2_7 l2_7.length c2_7] 30) := by simpa using heap_alloc_new ((w.alloc (Obj.cells #[.int .i64 a0_0, .int .i64 a0_1, .slice A0_2 l0_2.length c0_2, .slice A0_3 l0_3.length c0_3] 25)).alloc (Obj.cells #[.int .i64 a1_0, .int .i64 a1_1] 27)) (Obj.cells #[.int .i64 a2_0, .int .i64 a2_1, .int .i64 a2_2, .int .i64 a2_3, .int .i64 a2_4, .int .i64 a2_5, .slice A2_6 l2_6.length c2_6, .slice A2_7 l2_7.length c2_7] 30)
  generalize (((w.alloc (Obj.cells #[.int .i64 a0_0, .int .i64 a0_1, .slice A0_2 l0_2.length c0_2, .slice A0_3 l0_3.length c0_3] 25)).alloc (Obj.cells #[.int .i64 a1_0, .int .i64 a1_1] 27)).alloc (Obj.cells #[.int .i64 a2_0, .int .i64 a2_1, .int .i64 a2_2, .int .i64 a2_3, .int .i64 a2_4, .int .i64 a2_5, .slice A2_6 l2_6.length c2_6, .slice A2_7 l2_7.length c2_7] 30)) = w0 at hB0 hk0 hk1 hk2 ⊢
  refine (backstitchkeep3_worded.calls k true _ HW.out).mono ?_
  rintro e1 w1 ⟨rfl, hb⟩
  have HB1 := Aside0.mk (below_step hB0 hb)
  replace hk0 := blk_below hk0 hb
  replace hk1 := blk_below hk1 hb
  replace hk2 := blk_below hk2 hb
  have HK0 := Aside0.mk hk0
  have HK1 := Aside0.mk hk1
  have HK2 := Aside0.mk hk2
  have hx0 : w1.cell? ⟨w.heap.size, 0, none⟩ = some (.int .i64 a0_0) := (blk_cell hk0 0).trans rfl
  have hx1 : w1.cell? ⟨w.heap.size, 1, none⟩ = some (.int .i64 a0_1) := (blk_cell hk0 1).trans rfl
  have hx2 : w1.cell? ⟨w.heap.size, 2, none⟩ = some (.slice A0_2 l0_2.length c0_2) := (blk_cell hk0 2).trans rfl
  have hx3 : w1.cell? ⟨w.heap.size, 3, none⟩ = some (.slice A0_3 l0_3.length c0_3) := (blk_cell hk0 3).trans rfl
  clear hb hB0 hk0 hk1 hk2
  go_wp2_with fail
  refine (words_Of.calls k a0_0 a0_1 A0_2 c0_2 l0_2 A0_3 c0_3 l0_3 ws e _ (Kd.C_below R2.out HB1.out) C2.out (Kd.C_below R3.out HB1.out) C3.out HF1.out).mono ?_
  rintro e1 w2 ⟨v2, rfl, ho, hb⟩
  obtain ⟨A4, c4, rfl, _, _⟩ := Kd.R_reads ho
  have HB2 := Aside0.mk (below_step HB1.out hb)
  have HK0 := Aside0.mk (blk_below HK0.out hb)
  have HK1 := Aside0.mk (blk_below HK1.out hb)
  have HK2 := Aside0.mk (blk_below HK2.out hb)
  clear ho hb hx0 hx1 hx2 hx3
  have hx0 : w2.cell? ⟨w.heap.size, 0, none⟩ = some (.int .i64 a0_0) := (blk_cell HK0.out 0).trans rfl
  have hx1 : w2.cell? ⟨w.heap.size, 1, none⟩ = some (.int .i64 a0_1) := (blk_cell HK0.out 1).trans rfl
  have hx2 : w2.cell? ⟨w.heap.size, 2, none⟩ = some (.slice A0_2 l0_2.length c0_2) := (blk_cell HK0.out 2).trans rfl
  have hx3 : w2.cell? ⟨w.heap.size, 3, none⟩ = some (.slice A0_3 l0_3.length c0_3) := (blk_cell HK0.out 3).trans rfl
  have hlt : w.heap.size < w2.heap.size := blk_lt HK0.out
  go_upto_region 5 with fail
  have hD := heap_alloc_new w2 (Obj.cells #[.int .i64 a0_0, .int .i64 a0_1, .slice A0_2 l0_2.length c0_2, .slice A0_3 l0_3.length c0_3] 25)
  have hB5 : Below w2.heap.size w2 (w2.alloc (Obj.cells #[.int .i64 a0_0, .int .i64 a0_1, .slice A0_2 l0_2.length c0_2, .slice A0_3 l0_3.length c0_3] 25)) := below_alloc (Below.refl _ _) _
  have hs5 : (w2.alloc (Obj.cells #[.int .i64 a0_0, .int .i64 a0_1, .slice A0_2 l0_2.length c0_2, .slice A0_3 l0_3.length c0_3] 25)).heap.size = w2.heap.size + 1 := by simp
  generalize w2.alloc (Obj.cells #[.int .i64 a0_0, .int .i64 a0_1, .slice A0_2 l0_2.length c0_2, .slice A0_3 l0_3.length c0_3] 25) = w5 at hD hB5 hs5 ⊢
  have HG5 : Aside0 (w2.heap.size ≤ w5.heap.size) := ⟨by omega⟩
  have HLT := Aside0.mk hlt
  have HLT1 := Aside0.mk (show w.heap.size + 1 < w2.heap.size from blk_lt HK1.out)
  have HB5 := Aside0.mk hB5
  have HD := Aside0.mk hD
  have HS5 := Aside0.mk hs5
  have y2 : w5.cell? ⟨w.heap.size, 2, none⟩ = some (.slice A0_2 l0_2.length c0_2) := cell_deeper hx2 hB5 hlt
  have y4 : w5.cell? ⟨w.heap.size + 1, 0, none⟩ = some (.int .i64 a1_0) := cell_deeper ((blk_cell HK1.out 0).trans rfl) hB5 HLT1.out
  have y5 : w5.cell? ⟨w.heap.size + 1, 1, none⟩ = some (.int .i64 a1_1) := cell_deeper ((blk_cell HK1.out 1).trans rfl) hB5 HLT1.out
  have HCP : Aside0 (api_Val_14.f l0_2 = some l0_2) := ⟨by unfold api_Val_14.f; rw [if_pos (by have := HZ.out.1; simp; omega)]; rfl⟩
  clear hD hB5 hs5 hlt hx0 hx1 hx2 hx3
  go_cut [] (fun wx => ∃ (A5 : Option Addr) (c5 : Nat), wx.heap[w2.heap.size]? = some (Obj.cells #[.int .i64 a0_0, .int .i64 a0_1, .slice A5 (l0_2.length + 1) c5, .slice A0_3 l0_3.length c0_3] 25) ∧ l0_2.length + 1 ≤ c5 ∧ Kd.C k27 wx A5 (l0_2.length + 1) (l0_2 ++ [⟨a1_0, a1_1⟩]) ∧ Below w2.heap.size w2 wx)
  case first =>
    refine start_ (n := 8) (S := fun w' => Below w2.heap.size w5 w' ∧ w'.cell? ⟨w.heap.size, 2, none⟩ = some (.slice A0_2 l0_2.length c0_2) ∧ w'.cell? ⟨w.heap.size + 1, 0, none⟩ = some (.int .i64 a1_0) ∧ w'.cell? ⟨w.heap.size + 1, 1, none⟩ = some (.int .i64 a1_1) ∧ w'.heap[w2.heap.size]? = some (Obj.cells #[.int .i64 a0_0, .int .i64 a0_1, .slice A0_2 l0_2.length c0_2, .slice A0_3 l0_3.length c0_3] 25)) (ds := [7]) #[false, false, false, false, false, false, false, false] (by kernel_rfl) rfl rfl ⟨(below_drew (Below.refl _ _)), y2, y4, y5, HD.out⟩ (fun hHeld => ?_)
    refine pure_ (i := 0) (N := some 23) (v := ?_) (a' := ?_) #[true, false, false, false, false, false, false, false] rfl rfl (by kernel_rfl) (fun _ _ _ h => h) (Or.inl ⟨by rfl, ?_⟩) ?_ ?_
    rotate_left
    · intro w'
      go_simp
      with_reducible rfl
    rotate_left
    · simp only [Act.put, List.setIfInBounds_toArray, List.set_cons_zero, List.set_cons_succ, i64_w, i32_w]
      rfl
    refine take_ (i := 1) (N := some 24) (v := ?_) (a' := ?_) #[true, true, false, false, false, false, false, false] rfl rfl (by kernel_rfl) (fun _ _ _ h => h) (Or.inl ⟨by rfl, ?_⟩) hHeld ?_ ?_
    rotate_left
    · rintro w' ⟨s0, s1, s2, s3, s4⟩
      go_simp
      with_reducible rfl
    rotate_left
    · simp only [Act.put, List.setIfInBounds_toArray, List.set_cons_zero, List.set_cons_succ, i64_w, i32_w]
      rfl
    refine take_ (i := 3) (N := some 26) (v := ?_) (a' := ?_) #[true, true, false, true, false, false, false, false] rfl rfl (by kernel_rfl) (fun _ _ _ h => h) (Or.inl ⟨by rfl, ?_⟩) hHeld ?_ ?_
    rotate_left
    · rintro w' ⟨s0, s1, s2, s3, s4⟩
      go_simp
      with_reducible rfl
    rotate_left
    · simp only [Act.put, List.setIfInBounds_toArray, List.set_cons_zero, List.set_cons_succ, i64_w, i32_w]
      rfl
    refine join_ (σ := Value × Nat) 3 #[true, true, true, true, true, false, false, false] (fun s => [(25, s.1), (27, .slice (some ⟨s.2, 0, none⟩) 1 1)]) (fun s w' => (Below w2.heap.size w5 w' ∧ w'.cell? ⟨w.heap.size, 2, none⟩ = some (.slice A0_2 l0_2.length c0_2) ∧ w'.cell? ⟨w.heap.size + 1, 0, none⟩ = some (.int .i64 a1_0) ∧ w'.cell? ⟨w.heap.size + 1, 1, none⟩ = some (.int .i64 a1_1) ∧ w'.heap[w2.heap.size]? = some (Obj.cells #[.int .i64 a0_0, .int .i64 a0_1, .slice A0_2 l0_2.length c0_2, .slice A0_3 l0_3.length c0_3] 25)) ∧ Kd.R k27 27 w' w2.heap.size (fun _ => True) s.1 l0_2 ∧ w'.heap[s.2]? = some (Obj.cells #[.int .i64 a1_0, .int .i64 a1_1] 27) ∧ some s.2 ≠ s.1.ownBlock) ?_ ?_
    rotate_left
    · intro hCont
      refine two_ (i := 2) (j := 4) (Ni := some 25) (Nj := some 27) #[true, true, true, true, false, false, false, false] #[true, true, false, true, true, false, false, false] rfl rfl rfl rfl (by kernel_rfl) (by decide) (by decide) (fun K hK => ?_) (fun K hK => ?_)
      · skip
        refine goes_ Try.func14 (by kernel_rfl) rfl #[.slice A0_2 l0_2.length c0_2] (by rfl) rfl rfl (by simp only [List.map_toArray, List.map_cons, List.map_nil]; rfl) ?_
        with_reducible refine (api_Val_14.calls A0_2 c0_2 l0_2 l0_2 _ (Kd.C_below R2.out (HB2.out.trans (below_cut (HB5.out.trans hHeld.1) (Nat.le_of_lt (Nat.lt_of_le_of_lt (Nat.le_refl _) HLT.out))))) C2.out HCP.out).mono ?_
        rintro e w6 ⟨v6, rfl, ho6, hb6⟩
        refine ⟨_, rfl, ?_⟩
        refine hK.out _ _ ⟨hHeld.1.trans (below_cut hb6 (Nat.le_trans HG5.out hHeld.1.size)), pw_cell_below hb6 hHeld.2.1, pw_cell_below hb6 hHeld.2.2.1, pw_cell_below hb6 hHeld.2.2.2.1, blk_below hHeld.2.2.2.2 hb6⟩ (fun hHeld => ?_)
        clear hK K
        refine norm_ (a' := ?_) ?_ ?_
        rotate_left
        · show Act.put _ (some 25) _ = _
          simp only [Act.put, List.setIfInBounds_toArray, List.set_cons_zero, List.set_cons_succ, i64_w, i32_w]
          rfl
        refine one_ (i := 4) (N := some 27) #[true, true, true, true, true, false, false, false] rfl rfl (by kernel_rfl) (by decide) (fun K hK => ?_)
        have hl4 := heap_alloc_new w6 (Obj.cells #[.int .i64 a1_0, .int .i64 a1_1] 27)
        refine value_ (w1 := ?_) (v := ?_) (by rfl) rfl ?_ ?_
        rotate_left 2
        · go_simp
          constructor
          · rfl
          · rfl
        have hne : some w6.heap.size ≠ (v6 : Value).ownBlock := fun e_ => Nat.lt_irrefl _ (Kd.R_lt ho6 _ e_.symm)
        refine hK.out _ _ ⟨hHeld.1.alloc (Nat.le_trans HG5.out hHeld.1.size) _, pw_cell_below (below_alloc (Below.refl _ _) _) hHeld.2.1, pw_cell_below (below_alloc (Below.refl _ _) _) hHeld.2.2.1, pw_cell_below (below_alloc (Below.refl _ _) _) hHeld.2.2.2.1, blk_alloc hHeld.2.2.2.2 _⟩ (fun hHeld => ?_)
        clear hK K
        refine norm_ (a' := ?_) ?_ ?_
        rotate_left
        · show Act.put _ (some 27) _ = _
          simp only [Act.put, List.setIfInBounds_toArray, List.set_cons_zero, List.set_cons_succ, i64_w, i32_w]
          rfl
        exact norm_ (by simp only [putAll, Act.put, List.setIfInBounds_toArray, List.set_cons_zero, List.set_cons_succ]) (hCont (v6, w6.heap.size) _ ⟨hHeld, Kd.R_lower (Kd.R_alloc ho6 _) HG5.out, hl4, hne⟩)
      · skip
        have hl4 := heap_alloc_new w5.drew (Obj.cells #[.int .i64 a1_0, .int .i64 a1_1] 27)
        refine value_ (w1 := ?_) (v := ?_) (by rfl) rfl ?_ ?_
        rotate_left 2
        · go_simp
          constructor
          · rfl
          · rfl
        refine hK.out _ _ ⟨hHeld.1.alloc (Nat.le_trans HG5.out hHeld.1.size) _, pw_cell_below (below_alloc (Below.refl _ _) _) hHeld.2.1, pw_cell_below (below_alloc (Below.refl _ _) _) hHeld.2.2.1, pw_cell_below (below_alloc (Below.refl _ _) _) hHeld.2.2.2.1, blk_alloc hHeld.2.2.2.2 _⟩ (fun hHeld => ?_)
        clear hK K
        refine norm_ (a' := ?_) ?_ ?_
        rotate_left
        · show Act.put _ (some 27) _ = _
          simp only [Act.put, List.setIfInBounds_toArray, List.set_cons_zero, List.set_cons_succ, i64_w, i32_w]
          rfl
        refine one_ (i := 2) (N := some 25) #[true, true, true, true, true, false, false, false] rfl rfl (by kernel_rfl) (by decide) (fun K hK => ?_)
        refine goes_ Try.func14 (by kernel_rfl) rfl #[.slice A0_2 l0_2.length c0_2] (by rfl) rfl rfl (by simp only [List.map_toArray, List.map_cons, List.map_nil]; rfl) ?_
        with_reducible refine (api_Val_14.calls A0_2 c0_2 l0_2 l0_2 _ (Kd.C_below R2.out (HB2.out.trans (below_cut (HB5.out.trans hHeld.1) (Nat.le_of_lt (Nat.lt_of_le_of_lt (Nat.le_refl _) HLT.out))))) C2.out HCP.out).mono ?_
        rintro e w6 ⟨v6, rfl, ho6, hb6⟩
        refine ⟨_, rfl, ?_⟩
        have hq4 := blk_below hl4 hb6
        have hne : some w5.heap.size ≠ (v6 : Value).ownBlock := fun e_ => by have h_ := Kd.R_base ho6 _ e_.symm; simp at h_; omega
        refine hK.out _ _ ⟨hHeld.1.trans (below_cut hb6 (Nat.le_trans HG5.out hHeld.1.size)), pw_cell_below hb6 hHeld.2.1, pw_cell_below hb6 hHeld.2.2.1, pw_cell_below hb6 hHeld.2.2.2.1, blk_below hHeld.2.2.2.2 hb6⟩ (fun hHeld => ?_)
        clear hK K
        refine norm_ (a' := ?_) ?_ ?_
        rotate_left
        · show Act.put _ (some 25) _ = _
          simp only [Act.put, List.setIfInBounds_toArray, List.set_cons_zero, List.set_cons_succ, i64_w, i32_w]
          rfl
        exact norm_ (by simp only [putAll, Act.put, List.setIfInBounds_toArray, List.set_cons_zero, List.set_cons_succ]) (hCont (v6, w5.heap.size) _ ⟨hHeld, Kd.R_lower ho6 (by simp; have := HG5.out; omega), hq4, hne⟩)
    rintro ⟨v6, gl⟩ w7 ⟨hS_, hR6, hl4, hne⟩
    have hHeld := hS_
    refine norm_ (a' := ?_) ?_ ?_
    rotate_left
    · simp only [putAll, Act.put, List.setIfInBounds_toArray, List.set_cons_zero, List.set_cons_succ]
      rfl
    refine one_ (i := 5) (N := some 28) #[true, true, true, true, true, true, false, false] rfl rfl (by kernel_rfl) (by decide) (fun K hK => ?_)
    refine Kd.N_append_rows_step k27 (w0 := w5) w2.heap.size (by rfl) (.tmp 25) (.tmp 27) 22 27 (.agg #[(.int .i64 0), (.int .i64 0)]) 16 rfl hU info_val rfl (by decide) (by omega) v6 l0_2 [⟨a1_0, a1_1⟩] (some ⟨gl, 0, none⟩) 1 1 (fun k_ => k_ ≠ w2.heap.size) (fun k_ => k_ = gl ∨ False) rfl rfl (Kd.N_mono (Kd.R_N (Kd.R_types hR6 hHeld.2.2.2.2 (by decide))) (fun _ hk => hk.2)) (F_block hl4 (fun W' _ => k27_mk W' ⟨a1_0, a1_1⟩)) ?oA ?oF hHeld.1 ?oB ?oC ?_
    case oA => intro k_ hk; rcases hk with rfl | hk; exact ⟨blk_ne hl4 hHeld.2.2.2.2 (by decide), hne⟩; exact hk.elim
    case oF => intro k_ hk e_; have h_ := Nat.le_trans HG5.out hHeld.1.size; have h2_ := blk_lt hHeld.2.2.2.2; omega
    case oB => exact Nat.le_trans HG5.out hHeld.1.size
    case oC => have := HZ.out.1; omega
    intro v8 w8 ho8 hb8 hg8 hat8
    obtain ⟨A8, c8, rfl, hc8, hC8⟩ := Kd.N_reads ho8
    have hD8 := blk_grown hHeld.2.2.2.2 hg8 (Kd.R_ne hR6 hHeld.2.2.2.2 (by decide))
    have hn8 := Kd.N_ne ho8 hD8 (by decide)
    refine hK.out _ _ ⟨hb8, cell_deeper y2 hb8 HLT.out, cell_deeper y4 hb8 HLT1.out, cell_deeper y5 hb8 HLT1.out, hD8⟩ (fun hHeld => ?_)
    clear hK K
    refine norm_ (a' := ?_) ?_ ?_
    rotate_left
    · show Act.put _ (some 28) _ = _
      simp only [Act.put, List.setIfInBounds_toArray, List.set_cons_zero, List.set_cons_succ, i64_w, i32_w]
      rfl
    refine pure_ (i := 6) (N := some 29) (v := ?_) (a' := ?_) #[true, true, true, true, true, true, true, false] rfl rfl (by kernel_rfl) (fun _ _ _ h => h) (Or.inl ⟨by rfl, ?_⟩) ?_ ?_
    rotate_left
    · intro w'
      go_simp
      with_reducible rfl
    rotate_left
    · simp only [Act.put, List.setIfInBounds_toArray, List.set_cons_zero, List.set_cons_succ, i64_w, i32_w]
      rfl
    refine last_ (i := 7) (N := none) #[true, true, true, true, true, true, true, true] rfl rfl (by kernel_rfl) (by decide) (fun K hK => ?_)
    have hq1 : w8.cell? ⟨w2.heap.size, 2, none⟩ = some (.slice A0_2 l0_2.length c0_2) := (blk_cell hD8 2).trans rfl
    have hq2 : w8.frozen? ⟨w2.heap.size, 2, none⟩ = false := blk_frozen hD8 2
    refine skip_ (w1 := ?_) (by rfl) rfl ?_ ?_
    rotate_left
    · go_simp
      rfl
    refine hK.out _ _ ?_
    clear hK K
    refine done_ (by kernel_rfl) ?_
    go_wp2_with fail
    go_meet
    refine ⟨A8, c8, by simpa using blk_set hD8 2 (.slice A8 (l0_2.length + 1) c8), by simpa using hc8, ?_, (HB5.out.trans hb8).setCell (Nat.le_refl _) _⟩
    have h_ := Kd.F_now (Kd.F_far (Kd.N_F ho8) (p := ⟨w2.heap.size, 2, none⟩) (fun _ hk => hk) (.slice A8 (l0_2.length + 1) c8))
    simpa using h_
  case rest =>
    obtain ⟨A5, c5, hD5, hc5, hC5, hB55⟩ := hcut
    have hz0 : wc.cell? ⟨w2.heap.size, 0, none⟩ = some (.int .i64 a0_0) := (blk_cell hD5 0).trans rfl
    have hz1 : wc.cell? ⟨w2.heap.size, 1, none⟩ = some (.int .i64 a0_1) := (blk_cell hD5 1).trans rfl
    have hz2 : wc.cell? ⟨w2.heap.size, 2, none⟩ = some (.slice A5 (l0_2.length + 1) c5) := (blk_cell hD5 2).trans rfl
    have hz3 : wc.cell? ⟨w2.heap.size, 3, none⟩ = some (.slice A0_3 l0_3.length c0_3) := (blk_cell hD5 3).trans rfl
    have hlc : w2.heap.size < wc.heap.size := blk_lt hD5
    have HLC := Aside0.mk hlc
    have HBC := Aside0.mk (HB2.out.trans (below_cut hB55 (Nat.le_of_lt HLT.out)))
    have HLN : (l0_2 ++ [(⟨a1_0, a1_1⟩ : S27)]).length = l0_2.length + 1 := by simp
    have HC5 : Aside0 (Kd.C k27 wc A5 (l0_2 ++ [(⟨a1_0, a1_1⟩ : S27)]).length (l0_2 ++ [⟨a1_0, a1_1⟩])) := ⟨by rw [HLN]; exact hC5⟩
    have HL5 : Aside0 ((l0_2 ++ [(⟨a1_0, a1_1⟩ : S27)]).length ≤ c5) := ⟨by rw [HLN]; exact hc5⟩
    have HSL : Aside0 (Value.slice A5 (l0_2.length + 1) c5 = Value.slice A5 (l0_2 ++ [(⟨a1_0, a1_1⟩ : S27)]).length c5) := ⟨by rw [HLN]⟩
    clear HLN
    have HK0 := Aside0.mk (blk_deeper HK0.out hB55 HLT.out)
    have HK2 := Aside0.mk (blk_deeper HK2.out hB55 (blk_lt HK2.out))
    clear hD5 hc5 hC5 hB55 y2 y4 y5
    go_wp2_with fail
    rw [HSL.out]
    have hcall := words_Of.calls k a0_0 a0_1 A5 c5 (l0_2 ++ [⟨a1_0, a1_1⟩]) A0_3 c0_3 l0_3 x g _ HC5.out HL5.out (Kd.C_below R3.out HBC.out) C3.out HF2.out
    (with_reducible refine hcall.mono ?_)
    rintro e1 w9 ⟨v9, rfl, ho, hb⟩
    obtain ⟨A9, c9, rfl, _, _⟩ := Kd.R_reads ho
    have HB9 := Aside0.mk (below_step HBC.out hb)
    have HK0 := Aside0.mk (blk_below HK0.out hb)
    have HK2 := Aside0.mk (blk_below HK2.out hb)
    have hl9 : wc.heap.size ≤ w9.heap.size := hb.size
    have HL9 := Aside0.mk hl9
    clear ho hb hz0 hz1 hz2 hz3
    have hx0 : w9.cell? ⟨w.heap.size, 0, none⟩ = some (.int .i64 a0_0) := (blk_cell HK0.out 0).trans rfl
    have hx1 : w9.cell? ⟨w.heap.size, 1, none⟩ = some (.int .i64 a0_1) := (blk_cell HK0.out 1).trans rfl
    have hx2 : w9.cell? ⟨w.heap.size, 2, none⟩ = some (.slice A0_2 l0_2.length c0_2) := (blk_cell HK0.out 2).trans rfl
    have hx3 : w9.cell? ⟨w.heap.size, 3, none⟩ = some (.slice A0_3 l0_3.length c0_3) := (blk_cell HK0.out 3).trans rfl
    have hlt : w.heap.size < w9.heap.size := blk_lt HK0.out
    go_upto_region 8 with fail
    have hD := heap_alloc_new w9 (Obj.cells #[.int .i64 a0_0, .int .i64 a0_1, .slice A0_2 l0_2.length c0_2, .slice A0_3 l0_3.length c0_3] 25)
    have hB5 : Below w9.heap.size w9 (w9.alloc (Obj.cells #[.int .i64 a0_0, .int .i64 a0_1, .slice A0_2 l0_2.length c0_2, .slice A0_3 l0_3.length c0_3] 25)) := below_alloc (Below.refl _ _) _
    have hs5 : (w9.alloc (Obj.cells #[.int .i64 a0_0, .int .i64 a0_1, .slice A0_2 l0_2.length c0_2, .slice A0_3 l0_3.length c0_3] 25)).heap.size = w9.heap.size + 1 := by simp
    generalize w9.alloc (Obj.cells #[.int .i64 a0_0, .int .i64 a0_1, .slice A0_2 l0_2.length c0_2, .slice A0_3 l0_3.length c0_3] 25) = w10 at hD hB5 hs5 ⊢
    have HG5 : Aside0 (w9.heap.size ≤ w10.heap.size) := ⟨by omega⟩
    have HLT := Aside0.mk hlt
    have HLT2 := Aside0.mk (show w.heap.size + 1 + 1 < w9.heap.size from blk_lt HK2.out)
    have HB5 := Aside0.mk hB5
    have HD := Aside0.mk hD
    have HS5 := Aside0.mk hs5
    have y3 : w10.cell? ⟨w.heap.size, 3, none⟩ = some (.slice A0_3 l0_3.length c0_3) := cell_deeper hx3 hB5 hlt
    have z0 : w10.cell? ⟨w.heap.size + 1 + 1, 0, none⟩ = some (.int .i64 a2_0) := cell_deeper ((blk_cell HK2.out 0).trans rfl) hB5 HLT2.out
    have z1 : w10.cell? ⟨w.heap.size + 1 + 1, 1, none⟩ = some (.int .i64 a2_1) := cell_deeper ((blk_cell HK2.out 1).trans rfl) hB5 HLT2.out
    have z2 : w10.cell? ⟨w.heap.size + 1 + 1, 2, none⟩ = some (.int .i64 a2_2) := cell_deeper ((blk_cell HK2.out 2).trans rfl) hB5 HLT2.out
    have z3 : w10.cell? ⟨w.heap.size + 1 + 1, 3, none⟩ = some (.int .i64 a2_3) := cell_deeper ((blk_cell HK2.out 3).trans rfl) hB5 HLT2.out
    have z4 : w10.cell? ⟨w.heap.size + 1 + 1, 4, none⟩ = some (.int .i64 a2_4) := cell_deeper ((blk_cell HK2.out 4).trans rfl) hB5 HLT2.out
    have z5 : w10.cell? ⟨w.heap.size + 1 + 1, 5, none⟩ = some (.int .i64 a2_5) := cell_deeper ((blk_cell HK2.out 5).trans rfl) hB5 HLT2.out
    have z6 : w10.cell? ⟨w.heap.size + 1 + 1, 6, none⟩ = some (.slice A2_6 l2_6.length c2_6) := cell_deeper ((blk_cell HK2.out 6).trans rfl) hB5 HLT2.out
    have z7 : w10.cell? ⟨w.heap.size + 1 + 1, 7, none⟩ = some (.slice A2_7 l2_7.length c2_7) := cell_deeper ((blk_cell HK2.out 7).trans rfl) hB5 HLT2.out
    have HW10 := Aside0.mk (HB9.out.trans (below_cut hB5 (Nat.le_of_lt hlt)))
    have HF3r : Aside0 (Kd.F k30 w10 (fun k_ => k_ < w.heap.size) A0_3 l0_3.length l0_3) := ⟨Kd.F_below (Kd.C_F heap30 R3.out) HW10.out⟩
    have HFLr : Aside0 (Kd.FK k30 w10 (fun k_ => k_ < w.heap.size) ⟨a2_0, a2_1, a2_2, a2_3, ⟨a2_4, a2_5⟩, l2_6, l2_7⟩ [.int .i64 a2_0, .int .i64 a2_1, .int .i64 a2_2, .int .i64 a2_3, .int .i64 a2_4, .int .i64 a2_5, .slice A2_6 l2_6.length c2_6, .slice A2_7 l2_7.length c2_7]) := ⟨k30_mkF w10 _ ⟨a2_0, a2_1, a2_2, a2_3, ⟨a2_4, a2_5⟩, l2_6, l2_7⟩ C6.out (Kd.F_below (Kd.C_F heap27 R6.out) HW10.out) C7.out (Kd.F_below (Kd.C_F heap110 R7.out) HW10.out)⟩
    clear hD hB5 hs5 hlt hx0 hx1 hx2 hx3
    go_cut [] (fun wx => ∃ (A5 : Option Addr) (c5 : Nat), wx.heap[w9.heap.size]? = some (Obj.cells #[.int .i64 a0_0, .int .i64 a0_1, .slice A0_2 l0_2.length c0_2, .slice A5 (l0_3.length + 1) c5] 25) ∧ l0_3.length + 1 ≤ c5 ∧ Kd.C k30 wx A5 (l0_3.length + 1) (l0_3 ++ [⟨a2_0, a2_1, a2_2, a2_3, ⟨a2_4, a2_5⟩, l2_6, l2_7⟩]) ∧ Below w9.heap.size w9 wx)
    case first =>
      refine start_ (n := 9) (S := fun w' => Below w9.heap.size w10 w' ∧ w'.cell? ⟨w.heap.size, 3, none⟩ = some (.slice A0_3 l0_3.length c0_3) ∧ w'.cell? ⟨w.heap.size + 1 + 1, 0, none⟩ = some (.int .i64 a2_0) ∧ w'.cell? ⟨w.heap.size + 1 + 1, 1, none⟩ = some (.int .i64 a2_1) ∧ w'.cell? ⟨w.heap.size + 1 + 1, 2, none⟩ = some (.int .i64 a2_2) ∧ w'.cell? ⟨w.heap.size + 1 + 1, 3, none⟩ = some (.int .i64 a2_3) ∧ w'.cell? ⟨w.heap.size + 1 + 1, 4, none⟩ = some (.int .i64 a2_4) ∧ w'.cell? ⟨w.heap.size + 1 + 1, 5, none⟩ = some (.int .i64 a2_5) ∧ w'.cell? ⟨w.heap.size + 1 + 1, 6, none⟩ = some (.slice A2_6 l2_6.length c2_6) ∧ w'.cell? ⟨w.heap.size + 1 + 1, 7, none⟩ = some (.slice A2_7 l2_7.length c2_7) ∧ w'.heap[w9.heap.size]? = some (Obj.cells #[.int .i64 a0_0, .int .i64 a0_1, .slice A0_2 l0_2.length c0_2, .slice A0_3 l0_3.length c0_3] 25)) (ds := [8]) #[false, false, false, false, false, false, false, false, false] (by kernel_rfl) rfl rfl ⟨(below_drew (Below.refl _ _)), y3, z0, z1, z2, z3, z4, z5, z6, z7, HD.out⟩ (fun hHeld => ?_)
      generalize w10.drew = w16 at hHeld ⊢
      refine pure_ (i := 1) (N := some 37) (v := ?_) (a' := ?_) #[false, true, false, false, false, false, false, false, false] rfl rfl (by kernel_rfl) (fun _ _ _ h => h) (Or.inl ⟨by rfl, ?_⟩) ?_ ?_
      rotate_left
      · intro w'
        go_simp
        with_reducible rfl
      rotate_left
      · simp only [Act.put, List.setIfInBounds_toArray, List.set_cons_zero, List.set_cons_succ, i64_w, i32_w]
        rfl
      refine take_ (i := 2) (N := some 38) (v := ?_) (a' := ?_) #[false, true, true, false, false, false, false, false, false] rfl rfl (by kernel_rfl) (fun _ _ _ h => h) (Or.inl ⟨by rfl, ?_⟩) hHeld ?_ ?_
      rotate_left
      · rintro w' ⟨s0, s1, s2, s3, s4, s5, s6, s7, s8, s9, s10⟩
        go_simp
        with_reducible rfl
      rotate_left
      · simp only [Act.put, List.setIfInBounds_toArray, List.set_cons_zero, List.set_cons_succ, i64_w, i32_w]
        rfl
      refine take_ (i := 4) (N := some 40) (v := ?_) (a' := ?_) #[false, true, true, false, true, false, false, false, false] rfl rfl (by kernel_rfl) (fun _ _ _ h => h) (Or.inl ⟨by rfl, ?_⟩) hHeld ?_ ?_
      rotate_left
      · rintro w' ⟨s0, s1, s2, s3, s4, s5, s6, s7, s8, s9, s10⟩
        go_simp
        with_reducible rfl
      rotate_left
      · simp only [Act.put, List.setIfInBounds_toArray, List.set_cons_zero, List.set_cons_succ, i64_w, i32_w]
        rfl
      refine join_ (σ := Value × Nat × Nat) 3 #[true, true, true, true, true, true, false, false, false] (fun s => [(36, .slice (some ⟨s.2.2, 0, none⟩) 0 0), (39, s.1), (41, .slice (some ⟨s.2.1, 0, none⟩) 1 1)]) (fun s w' => (Below w9.heap.size w10 w' ∧ w'.cell? ⟨w.heap.size, 3, none⟩ = some (.slice A0_3 l0_3.length c0_3) ∧ w'.cell? ⟨w.heap.size + 1 + 1, 0, none⟩ = some (.int .i64 a2_0) ∧ w'.cell? ⟨w.heap.size + 1 + 1, 1, none⟩ = some (.int .i64 a2_1) ∧ w'.cell? ⟨w.heap.size + 1 + 1, 2, none⟩ = some (.int .i64 a2_2) ∧ w'.cell? ⟨w.heap.size + 1 + 1, 3, none⟩ = some (.int .i64 a2_3) ∧ w'.cell? ⟨w.heap.size + 1 + 1, 4, none⟩ = some (.int .i64 a2_4) ∧ w'.cell? ⟨w.heap.size + 1 + 1, 5, none⟩ = some (.int .i64 a2_5) ∧ w'.cell? ⟨w.heap.size + 1 + 1, 6, none⟩ = some (.slice A2_6 l2_6.length c2_6) ∧ w'.cell? ⟨w.heap.size + 1 + 1, 7, none⟩ = some (.slice A2_7 l2_7.length c2_7) ∧ w'.heap[w9.heap.size]? = some (Obj.cells #[.int .i64 a0_0, .int .i64 a0_1, .slice A0_2 l0_2.length c0_2, .slice A0_3 l0_3.length c0_3] 25)) ∧ Kd.N k30 30 w' w9.heap.size (fun k_ => k_ ≠ w9.heap.size) s.1 l0_3 ∧ w'.heap[s.2.1]? = some (Obj.cells #[.int .i64 a2_0, .int .i64 a2_1, .int .i64 a2_2, .int .i64 a2_3, .int .i64 a2_4, .int .i64 a2_5, .slice A2_6 l2_6.length c2_6, .slice A2_7 l2_7.length c2_7] 30) ∧ some s.2.1 ≠ s.1.ownBlock) ?_ ?_
      rotate_left
      · intro hCont
        refine two_ (i := 0) (j := 5) (Ni := some 36) (Nj := some 41) #[true, true, true, false, true, false, false, false, false] #[false, true, true, false, true, true, false, false, false] rfl rfl rfl rfl (by kernel_rfl) (by decide) (by decide) (fun K hK => ?_) (fun K hK => ?_)
        · skip
          have hN := N_empty k30 30 w16 w9.heap.size (fun k_ => k_ ≠ w9.heap.size) (Nat.le_trans HG5.out hHeld.1.size) (fun e_ => by have h_ := blk_lt hHeld.2.2.2.2.2.2.2.2.2.2; omega)
          try simp only [blk_size] at hN
          refine value_ (w1 := ?_) (v := ?_) (by rfl) rfl ?_ ?_
          rotate_left 2
          · go_simp
            constructor
            · rfl
            · rfl
          refine hK.out _ _ ⟨hHeld.1.alloc (Nat.le_trans HG5.out hHeld.1.size) _, pw_cell_below (below_alloc (Below.refl _ _) _) hHeld.2.1, pw_cell_below (below_alloc (Below.refl _ _) _) hHeld.2.2.1, pw_cell_below (below_alloc (Below.refl _ _) _) hHeld.2.2.2.1, pw_cell_below (below_alloc (Below.refl _ _) _) hHeld.2.2.2.2.1, pw_cell_below (below_alloc (Below.refl _ _) _) hHeld.2.2.2.2.2.1, pw_cell_below (below_alloc (Below.refl _ _) _) hHeld.2.2.2.2.2.2.1, pw_cell_below (below_alloc (Below.refl _ _) _) hHeld.2.2.2.2.2.2.2.1, pw_cell_below (below_alloc (Below.refl _ _) _) hHeld.2.2.2.2.2.2.2.2.1, pw_cell_below (below_alloc (Below.refl _ _) _) hHeld.2.2.2.2.2.2.2.2.2.1, blk_alloc hHeld.2.2.2.2.2.2.2.2.2.2 _⟩ (fun hHeld => ?_)
          clear hK K
          refine norm_ (a' := ?_) ?_ ?_
          rotate_left
          · show Act.put _ (some 36) _ = _
            simp only [Act.put, List.setIfInBounds_toArray, List.set_cons_zero, List.set_cons_succ, i64_w, i32_w]
            rfl
          refine two_ (i := 3) (j := 5) (Ni := some 39) (Nj := some 41) #[true, true, true, true, true, false, false, false, false] #[true, true, true, false, true, true, false, false, false] rfl rfl rfl rfl (by kernel_rfl) (by decide) (by decide) (fun K hK => ?_) (fun K hK => ?_)
          · skip
            refine Kd.N_append_rows_step k30 (w0 := w10) w9.heap.size (by rfl) (.tmp 36) (.tmp 38) 23 30 (.agg #[.int .i64 0, .int .i64 0, .int .i64 0, .int .i64 0, .int .i64 0, .int .i64 0, .slice none 0 0, .slice none 0 0]) 96 rfl hU3 info_frame rfl (by decide) (by omega) (.slice (some ⟨w16.heap.size, 0, none⟩) 0 0) [] l0_3 A0_3 l0_3.length c0_3 (fun k_ => k_ ≠ w9.heap.size) (fun k_ => k_ < w.heap.size) rfl rfl hN (Kd.F_step HF3r.out (fun k_ hk _ => hHeld.1.block k_ (Nat.lt_trans hk HLT.out))) ?pA0 ?pF0 hHeld.1 (Nat.le_trans HG5.out hHeld.1.size) ?pC0 ?_
            case pA0 => intro k_ hk; have h_ := HLT.out; refine ⟨fun e_ => by omega, fun e_ => ?_⟩; have h2_ := Kd.N_base hN k_ e_.symm; omega
            case pF0 => intro k_ hk e_; have h_ := blk_lt hHeld.2.2.2.2.2.2.2.2.2.2; omega
            case pC0 => have h_ := HZ.out.2.1; simp; omega
            intro v11 w11 ho hb hg hat
            have hN11 : Kd.N k30 30 w11 w9.heap.size (fun k_ => k_ ≠ w9.heap.size) v11 l0_3 := ho
            refine hK.out _ _ ⟨hb, cell_deeper y3 hb HLT.out, cell_deeper z0 hb HLT2.out, cell_deeper z1 hb HLT2.out, cell_deeper z2 hb HLT2.out, cell_deeper z3 hb HLT2.out, cell_deeper z4 hb HLT2.out, cell_deeper z5 hb HLT2.out, cell_deeper z6 hb HLT2.out, cell_deeper z7 hb HLT2.out, blk_grown hHeld.2.2.2.2.2.2.2.2.2.2 hg (Kd.N_ne hN hHeld.2.2.2.2.2.2.2.2.2.2 (by decide))⟩ (fun hHeld => ?_)
            clear hK K
            refine norm_ (a' := ?_) ?_ ?_
            rotate_left
            · show Act.put _ (some 39) _ = _
              simp only [Act.put, List.setIfInBounds_toArray, List.set_cons_zero, List.set_cons_succ, i64_w, i32_w]
              rfl
            refine one_ (i := 5) (N := some 41) #[true, true, true, true, true, true, false, false, false] rfl rfl (by kernel_rfl) (by decide) (fun K hK => ?_)
            have hl5 := heap_alloc_new w11 (Obj.cells #[.int .i64 a2_0, .int .i64 a2_1, .int .i64 a2_2, .int .i64 a2_3, .int .i64 a2_4, .int .i64 a2_5, .slice A2_6 l2_6.length c2_6, .slice A2_7 l2_7.length c2_7] 30)
            try simp only [blk_size] at hl5
            have hne : some w11.heap.size ≠ (v11 : Value).ownBlock := fun e_ => Nat.lt_irrefl _ (Kd.N_lt hN11 _ e_.symm)
            have hN11 := Kd.N_alloc hN11 (Obj.cells #[.int .i64 a2_0, .int .i64 a2_1, .int .i64 a2_2, .int .i64 a2_3, .int .i64 a2_4, .int .i64 a2_5, .slice A2_6 l2_6.length c2_6, .slice A2_7 l2_7.length c2_7] 30)
            refine value_ (w1 := ?_) (v := ?_) (by rfl) rfl ?_ ?_
            rotate_left 2
            · go_simp
              constructor
              · rfl
              · rfl
            refine hK.out _ _ ⟨hHeld.1.alloc (Nat.le_trans HG5.out hHeld.1.size) _, pw_cell_below (below_alloc (Below.refl _ _) _) hHeld.2.1, pw_cell_below (below_alloc (Below.refl _ _) _) hHeld.2.2.1, pw_cell_below (below_alloc (Below.refl _ _) _) hHeld.2.2.2.1, pw_cell_below (below_alloc (Below.refl _ _) _) hHeld.2.2.2.2.1, pw_cell_below (below_alloc (Below.refl _ _) _) hHeld.2.2.2.2.2.1, pw_cell_below (below_alloc (Below.refl _ _) _) hHeld.2.2.2.2.2.2.1, pw_cell_below (below_alloc (Below.refl _ _) _) hHeld.2.2.2.2.2.2.2.1, pw_cell_below (below_alloc (Below.refl _ _) _) hHeld.2.2.2.2.2.2.2.2.1, pw_cell_below (below_alloc (Below.refl _ _) _) hHeld.2.2.2.2.2.2.2.2.2.1, blk_alloc hHeld.2.2.2.2.2.2.2.2.2.2 _⟩ (fun hHeld => ?_)
            clear hK K
            refine norm_ (a' := ?_) ?_ ?_
            rotate_left
            · show Act.put _ (some 41) _ = _
              simp only [Act.put, List.setIfInBounds_toArray, List.set_cons_zero, List.set_cons_succ, i64_w, i32_w]
              rfl
            exact norm_ (by simp only [putAll, Act.put, List.setIfInBounds_toArray, List.set_cons_zero, List.set_cons_succ]) (hCont (v11, w11.heap.size, w16.heap.size) _ ⟨hHeld, hN11, hl5, hne⟩)
          · skip
            have hl5 := heap_alloc_new (w16.alloc (Obj.cells #[] 30)) (Obj.cells #[.int .i64 a2_0, .int .i64 a2_1, .int .i64 a2_2, .int .i64 a2_3, .int .i64 a2_4, .int .i64 a2_5, .slice A2_6 l2_6.length c2_6, .slice A2_7 l2_7.length c2_7] 30)
            try simp only [blk_size] at hl5
            have hN := Kd.N_alloc hN (Obj.cells #[.int .i64 a2_0, .int .i64 a2_1, .int .i64 a2_2, .int .i64 a2_3, .int .i64 a2_4, .int .i64 a2_5, .slice A2_6 l2_6.length c2_6, .slice A2_7 l2_7.length c2_7] 30)
            refine value_ (w1 := ?_) (v := ?_) (by rfl) rfl ?_ ?_
            rotate_left 2
            · go_simp
              constructor
              · rfl
              · rfl
            refine hK.out _ _ ⟨hHeld.1.alloc (Nat.le_trans HG5.out hHeld.1.size) _, pw_cell_below (below_alloc (Below.refl _ _) _) hHeld.2.1, pw_cell_below (below_alloc (Below.refl _ _) _) hHeld.2.2.1, pw_cell_below (below_alloc (Below.refl _ _) _) hHeld.2.2.2.1, pw_cell_below (below_alloc (Below.refl _ _) _) hHeld.2.2.2.2.1, pw_cell_below (below_alloc (Below.refl _ _) _) hHeld.2.2.2.2.2.1, pw_cell_below (below_alloc (Below.refl _ _) _) hHeld.2.2.2.2.2.2.1, pw_cell_below (below_alloc (Below.refl _ _) _) hHeld.2.2.2.2.2.2.2.1, pw_cell_below (below_alloc (Below.refl _ _) _) hHeld.2.2.2.2.2.2.2.2.1, pw_cell_below (below_alloc (Below.refl _ _) _) hHeld.2.2.2.2.2.2.2.2.2.1, blk_alloc hHeld.2.2.2.2.2.2.2.2.2.2 _⟩ (fun hHeld => ?_)
            clear hK K
            refine norm_ (a' := ?_) ?_ ?_
            rotate_left
            · show Act.put _ (some 41) _ = _
              simp only [Act.put, List.setIfInBounds_toArray, List.set_cons_zero, List.set_cons_succ, i64_w, i32_w]
              rfl
            refine one_ (i := 3) (N := some 39) #[true, true, true, true, true, true, false, false, false] rfl rfl (by kernel_rfl) (by decide) (fun K hK => ?_)
            refine Kd.N_append_rows_step k30 (w0 := w10) w9.heap.size (by rfl) (.tmp 36) (.tmp 38) 23 30 (.agg #[.int .i64 0, .int .i64 0, .int .i64 0, .int .i64 0, .int .i64 0, .int .i64 0, .slice none 0 0, .slice none 0 0]) 96 rfl hU3 info_frame rfl (by decide) (by omega) (.slice (some ⟨w16.heap.size, 0, none⟩) 0 0) [] l0_3 A0_3 l0_3.length c0_3 (fun k_ => k_ ≠ w9.heap.size) (fun k_ => k_ < w.heap.size) rfl rfl hN (Kd.F_step HF3r.out (fun k_ hk _ => hHeld.1.block k_ (Nat.lt_trans hk HLT.out))) ?pA05 ?pF05 hHeld.1 (Nat.le_trans HG5.out hHeld.1.size) ?pC05 ?_
            case pA05 => intro k_ hk; have h_ := HLT.out; refine ⟨fun e_ => by omega, fun e_ => ?_⟩; have h2_ := Kd.N_base hN k_ e_.symm; omega
            case pF05 => intro k_ hk e_; have h_ := blk_lt hHeld.2.2.2.2.2.2.2.2.2.2; omega
            case pC05 => have h_ := HZ.out.2.1; simp; omega
            intro v11 w11 ho hb hg hat
            have hN11 : Kd.N k30 30 w11 w9.heap.size (fun k_ => k_ ≠ w9.heap.size) v11 l0_3 := ho
            have hne : some (w16.heap.size + 1) ≠ (v11 : Value).ownBlock := by
              intro e_
              rcases hat with h_ | ⟨b_, h_, h2_⟩
              · rw [h_] at e_; simp [Value.ownBlock] at e_
              · rw [h_] at e_; injection e_ with e_; simp at h2_; omega
            have hl5 := blk_grown hl5 hg (by simp [Value.ownBlock])
            refine hK.out _ _ ⟨hb, cell_deeper y3 hb HLT.out, cell_deeper z0 hb HLT2.out, cell_deeper z1 hb HLT2.out, cell_deeper z2 hb HLT2.out, cell_deeper z3 hb HLT2.out, cell_deeper z4 hb HLT2.out, cell_deeper z5 hb HLT2.out, cell_deeper z6 hb HLT2.out, cell_deeper z7 hb HLT2.out, blk_grown hHeld.2.2.2.2.2.2.2.2.2.2 hg (Kd.N_ne hN hHeld.2.2.2.2.2.2.2.2.2.2 (by decide))⟩ (fun hHeld => ?_)
            clear hK K
            refine norm_ (a' := ?_) ?_ ?_
            rotate_left
            · show Act.put _ (some 39) _ = _
              simp only [Act.put, List.setIfInBounds_toArray, List.set_cons_zero, List.set_cons_succ, i64_w, i32_w]
              rfl
            exact norm_ (by simp only [putAll, Act.put, List.setIfInBounds_toArray, List.set_cons_zero, List.set_cons_succ]) (hCont (v11, w16.heap.size + 1, w16.heap.size) _ ⟨hHeld, hN11, hl5, hne⟩)
        · skip
          have hl5 := heap_alloc_new w16 (Obj.cells #[.int .i64 a2_0, .int .i64 a2_1, .int .i64 a2_2, .int .i64 a2_3, .int .i64 a2_4, .int .i64 a2_5, .slice A2_6 l2_6.length c2_6, .slice A2_7 l2_7.length c2_7] 30)
          try simp only [blk_size] at hl5
          refine value_ (w1 := ?_) (v := ?_) (by rfl) rfl ?_ ?_
          rotate_left 2
          · go_simp
            constructor
            · rfl
            · rfl
          refine hK.out _ _ ⟨hHeld.1.alloc (Nat.le_trans HG5.out hHeld.1.size) _, pw_cell_below (below_alloc (Below.refl _ _) _) hHeld.2.1, pw_cell_below (below_alloc (Below.refl _ _) _) hHeld.2.2.1, pw_cell_below (below_alloc (Below.refl _ _) _) hHeld.2.2.2.1, pw_cell_below (below_alloc (Below.refl _ _) _) hHeld.2.2.2.2.1, pw_cell_below (below_alloc (Below.refl _ _) _) hHeld.2.2.2.2.2.1, pw_cell_below (below_alloc (Below.refl _ _) _) hHeld.2.2.2.2.2.2.1, pw_cell_below (below_alloc (Below.refl _ _) _) hHeld.2.2.2.2.2.2.2.1, pw_cell_below (below_alloc (Below.refl _ _) _) hHeld.2.2.2.2.2.2.2.2.1, pw_cell_below (below_alloc (Below.refl _ _) _) hHeld.2.2.2.2.2.2.2.2.2.1, blk_alloc hHeld.2.2.2.2.2.2.2.2.2.2 _⟩ (fun hHeld => ?_)
          clear hK K
          refine norm_ (a' := ?_) ?_ ?_
          rotate_left
          · show Act.put _ (some 41) _ = _
            simp only [Act.put, List.setIfInBounds_toArray, List.set_cons_zero, List.set_cons_succ, i64_w, i32_w]
            rfl
          refine one_ (i := 0) (N := some 36) #[true, true, true, false, true, true, false, false, false] rfl rfl (by kernel_rfl) (by decide) (fun K hK => ?_)
          have hl5 := blk_alloc hl5 (Obj.cells #[] 30)
          have hN := N_empty k30 30 (w16.alloc (Obj.cells #[.int .i64 a2_0, .int .i64 a2_1, .int .i64 a2_2, .int .i64 a2_3, .int .i64 a2_4, .int .i64 a2_5, .slice A2_6 l2_6.length c2_6, .slice A2_7 l2_7.length c2_7] 30)) w9.heap.size (fun k_ => k_ ≠ w9.heap.size) (Nat.le_trans HG5.out hHeld.1.size) (fun e_ => by have h_ := blk_lt hHeld.2.2.2.2.2.2.2.2.2.2; omega)
          try simp only [blk_size] at hN
          refine value_ (w1 := ?_) (v := ?_) (by rfl) rfl ?_ ?_
          rotate_left 2
          · go_simp
            constructor
            · rfl
            · rfl
          refine hK.out _ _ ⟨hHeld.1.alloc (Nat.le_trans HG5.out hHeld.1.size) _, pw_cell_below (below_alloc (Below.refl _ _) _) hHeld.2.1, pw_cell_below (below_alloc (Below.refl _ _) _) hHeld.2.2.1, pw_cell_below (below_alloc (Below.refl _ _) _) hHeld.2.2.2.1, pw_cell_below (below_alloc (Below.refl _ _) _) hHeld.2.2.2.2.1, pw_cell_below (below_alloc (Below.refl _ _) _) hHeld.2.2.2.2.2.1, pw_cell_below (below_alloc (Below.refl _ _) _) hHeld.2.2.2.2.2.2.1, pw_cell_below (below_alloc (Below.refl _ _) _) hHeld.2.2.2.2.2.2.2.1, pw_cell_below (below_alloc (Below.refl _ _) _) hHeld.2.2.2.2.2.2.2.2.1, pw_cell_below (below_alloc (Below.refl _ _) _) hHeld.2.2.2.2.2.2.2.2.2.1, blk_alloc hHeld.2.2.2.2.2.2.2.2.2.2 _⟩ (fun hHeld => ?_)
          clear hK K
          refine norm_ (a' := ?_) ?_ ?_
          rotate_left
          · show Act.put _ (some 36) _ = _
            simp only [Act.put, List.setIfInBounds_toArray, List.set_cons_zero, List.set_cons_succ, i64_w, i32_w]
            rfl
          refine one_ (i := 3) (N := some 39) #[true, true, true, true, true, true, false, false, false] rfl rfl (by kernel_rfl) (by decide) (fun K hK => ?_)
          refine Kd.N_append_rows_step k30 (w0 := w10) w9.heap.size (by rfl) (.tmp 36) (.tmp 38) 23 30 (.agg #[.int .i64 0, .int .i64 0, .int .i64 0, .int .i64 0, .int .i64 0, .int .i64 0, .slice none 0 0, .slice none 0 0]) 96 rfl hU3 info_frame rfl (by decide) (by omega) (.slice (some ⟨w16.heap.size + 1, 0, none⟩) 0 0) [] l0_3 A0_3 l0_3.length c0_3 (fun k_ => k_ ≠ w9.heap.size) (fun k_ => k_ < w.heap.size) rfl rfl hN (Kd.F_step HF3r.out (fun k_ hk _ => hHeld.1.block k_ (Nat.lt_trans hk HLT.out))) ?pA50 ?pF50 hHeld.1 (Nat.le_trans HG5.out hHeld.1.size) ?pC50 ?_
          case pA50 => intro k_ hk; have h_ := HLT.out; refine ⟨fun e_ => by omega, fun e_ => ?_⟩; have h2_ := Kd.N_base hN k_ e_.symm; omega
          case pF50 => intro k_ hk e_; have h_ := blk_lt hHeld.2.2.2.2.2.2.2.2.2.2; omega
          case pC50 => have h_ := HZ.out.2.1; simp; omega
          intro v11 w11 ho hb hg hat
          have hN11 : Kd.N k30 30 w11 w9.heap.size (fun k_ => k_ ≠ w9.heap.size) v11 l0_3 := ho
          have hne : some (w16.heap.size) ≠ (v11 : Value).ownBlock := by
            intro e_
            rcases hat with h_ | ⟨b_, h_, h2_⟩
            · rw [h_] at e_; simp [Value.ownBlock] at e_
            · rw [h_] at e_; injection e_ with e_; simp at h2_; omega
          have hl5 := blk_grown hl5 hg (by simp [Value.ownBlock])
          refine hK.out _ _ ⟨hb, cell_deeper y3 hb HLT.out, cell_deeper z0 hb HLT2.out, cell_deeper z1 hb HLT2.out, cell_deeper z2 hb HLT2.out, cell_deeper z3 hb HLT2.out, cell_deeper z4 hb HLT2.out, cell_deeper z5 hb HLT2.out, cell_deeper z6 hb HLT2.out, cell_deeper z7 hb HLT2.out, blk_grown hHeld.2.2.2.2.2.2.2.2.2.2 hg (Kd.N_ne hN hHeld.2.2.2.2.2.2.2.2.2.2 (by decide))⟩ (fun hHeld => ?_)
          clear hK K
          refine norm_ (a' := ?_) ?_ ?_
          rotate_left
          · show Act.put _ (some 39) _ = _
            simp only [Act.put, List.setIfInBounds_toArray, List.set_cons_zero, List.set_cons_succ, i64_w, i32_w]
            rfl
          exact norm_ (by simp only [putAll, Act.put, List.setIfInBounds_toArray, List.set_cons_zero, List.set_cons_succ]) (hCont (v11, w16.heap.size, w16.heap.size + 1) _ ⟨hHeld, hN11, hl5, hne⟩)
      rintro ⟨v11, gl, g0⟩ w12 ⟨hS_, hN11, hl5, hne⟩
      have hHeld := hS_
      refine norm_ (a' := ?_) ?_ ?_
      rotate_left
      · simp only [putAll, Act.put, List.setIfInBounds_toArray, List.set_cons_zero, List.set_cons_succ]
        rfl
      refine one_ (i := 6) (N := some 42) #[true, true, true, true, true, true, true, false, false] rfl rfl (by kernel_rfl) (by decide) (fun K hK => ?_)
      refine Kd.N_append_rows_step k30 (w0 := w10) w9.heap.size (by rfl) (.tmp 39) (.tmp 41) 23 30 (.agg #[.int .i64 0, .int .i64 0, .int .i64 0, .int .i64 0, .int .i64 0, .int .i64 0, .slice none 0 0, .slice none 0 0]) 96 rfl hU3 info_frame rfl (by decide) (by omega) v11 l0_3 [⟨a2_0, a2_1, a2_2, a2_3, ⟨a2_4, a2_5⟩, l2_6, l2_7⟩] (some ⟨gl, 0, none⟩) 1 1 (fun k_ => k_ ≠ w9.heap.size) (fun k_ => k_ = gl ∨ k_ < w.heap.size) rfl rfl hN11 (F_block hl5 (Kd.FK_step HFLr.out (fun k_ hk _ => hHeld.1.block k_ (Nat.lt_trans hk HLT.out)))) ?qA ?qF hHeld.1 (Nat.le_trans HG5.out hHeld.1.size) ?qC ?_
      case qA => intro k_ hk; rcases hk with rfl | hk; exact ⟨blk_ne hl5 hHeld.2.2.2.2.2.2.2.2.2.2 (by decide), hne⟩; have h_ := HLT.out; refine ⟨fun e_ => by omega, fun e_ => ?_⟩; have h2_ := Kd.N_base hN11 k_ e_.symm; omega
      case qF => intro k_ hk e_; have h_ := blk_lt hHeld.2.2.2.2.2.2.2.2.2.2; omega
      case qC => have h_ := HZ.out.2.1; omega
      intro v12 w13 ho hb hg hat
      obtain ⟨A12, c12, rfl, hc12, hC12⟩ := Kd.N_reads ho
      have hD12 := blk_grown hHeld.2.2.2.2.2.2.2.2.2.2 hg (Kd.N_ne hN11 hHeld.2.2.2.2.2.2.2.2.2.2 (by decide))
      refine hK.out _ _ ⟨hb, cell_deeper y3 hb HLT.out, cell_deeper z0 hb HLT2.out, cell_deeper z1 hb HLT2.out, cell_deeper z2 hb HLT2.out, cell_deeper z3 hb HLT2.out, cell_deeper z4 hb HLT2.out, cell_deeper z5 hb HLT2.out, cell_deeper z6 hb HLT2.out, cell_deeper z7 hb HLT2.out, hD12⟩ (fun hHeld => ?_)
      clear hK K
      refine norm_ (a' := ?_) ?_ ?_
      rotate_left
      · show Act.put _ (some 42) _ = _
        simp only [Act.put, List.setIfInBounds_toArray, List.set_cons_zero, List.set_cons_succ, i64_w, i32_w]
        rfl
      refine pure_ (i := 7) (N := some 43) (v := ?_) (a' := ?_) #[true, true, true, true, true, true, true, true, false] rfl rfl (by kernel_rfl) (fun _ _ _ h => h) (Or.inl ⟨by rfl, ?_⟩) ?_ ?_
      rotate_left
      · intro w'
        go_simp
        with_reducible rfl
      rotate_left
      · simp only [Act.put, List.setIfInBounds_toArray, List.set_cons_zero, List.set_cons_succ, i64_w, i32_w]
        rfl
      refine last_ (i := 8) (N := none) #[true, true, true, true, true, true, true, true, true] rfl rfl (by kernel_rfl) (by decide) (fun K hK => ?_)
      have hq1 : w13.cell? ⟨w9.heap.size, 3, none⟩ = some (.slice A0_3 l0_3.length c0_3) := (blk_cell hD12 3).trans rfl
      have hq2 : w13.frozen? ⟨w9.heap.size, 3, none⟩ = false := blk_frozen hD12 3
      refine skip_ (w1 := ?_) (by rfl) rfl ?_ ?_
      rotate_left
      · go_simp
        rfl
      refine hK.out _ _ ?_
      clear hK K
      refine done_ (by kernel_rfl) ?_
      go_wp2_with fail
      go_meet
      refine ⟨A12, c12, by simpa using blk_set hD12 3 (.slice A12 (l0_3.length + 1) c12), by simpa using hc12, ?_, (HB5.out.trans hb).setCell (Nat.le_refl _) _⟩
      have h_ := Kd.F_now (Kd.F_far (Kd.N_F ho) (p := ⟨w9.heap.size, 3, none⟩) (fun _ hk => hk) (.slice A12 (l0_3.length + 1) c12))
      simpa using h_
    case rest =>
      obtain ⟨A5, c5, hD5, hc5, hC5, hB55⟩ := hcut
      have hz0 : wc.cell? ⟨w9.heap.size, 0, none⟩ = some (.int .i64 a0_0) := (blk_cell hD5 0).trans rfl
      have hz1 : wc.cell? ⟨w9.heap.size, 1, none⟩ = some (.int .i64 a0_1) := (blk_cell hD5 1).trans rfl
      have hz2 : wc.cell? ⟨w9.heap.size, 2, none⟩ = some (.slice A0_2 l0_2.length c0_2) := (blk_cell hD5 2).trans rfl
      have hz3 : wc.cell? ⟨w9.heap.size, 3, none⟩ = some (.slice A5 (l0_3.length + 1) c5) := (blk_cell hD5 3).trans rfl
      have HBC := Aside0.mk (HB9.out.trans (below_cut hB55 (Nat.le_of_lt HLT.out)))
      have HK2 := Aside0.mk (blk_deeper HK2.out hB55 HLT2.out)
      have HLN : (l0_3 ++ [(⟨a2_0, a2_1, a2_2, a2_3, ⟨a2_4, a2_5⟩, l2_6, l2_7⟩ : S30)]).length = l0_3.length + 1 := by simp
      have HC5 : Aside0 (Kd.C k30 wc A5 (l0_3 ++ [(⟨a2_0, a2_1, a2_2, a2_3, ⟨a2_4, a2_5⟩, l2_6, l2_7⟩ : S30)]).length (l0_3 ++ [(⟨a2_0, a2_1, a2_2, a2_3, ⟨a2_4, a2_5⟩, l2_6, l2_7⟩ : S30)])) := ⟨by rw [HLN]; exact hC5⟩
      have HL5 : Aside0 ((l0_3 ++ [(⟨a2_0, a2_1, a2_2, a2_3, ⟨a2_4, a2_5⟩, l2_6, l2_7⟩ : S30)]).length ≤ c5) := ⟨by rw [HLN]; exact hc5⟩
      have HSL : Aside0 (Value.slice A5 (l0_3.length + 1) c5 = Value.slice A5 (l0_3 ++ [(⟨a2_0, a2_1, a2_2, a2_3, ⟨a2_4, a2_5⟩, l2_6, l2_7⟩ : S30)]).length c5) := ⟨by rw [HLN]⟩
      clear HLN hD5 hc5 hC5 hB55
      clear y3 z0 z1 z2 z3 z4 z5 z6 z7
      go_wp2_with fail
      rw [HSL.out]
      have hcall2 := words_Of.calls k a0_0 a0_1 A0_2 c0_2 l0_2 A5 c5 (l0_3 ++ [(⟨a2_0, a2_1, a2_2, a2_3, ⟨a2_4, a2_5⟩, l2_6, l2_7⟩ : S30)]) y z wc (Kd.C_below R2.out HBC.out) C2.out HC5.out HL5.out HF3.out
      (with_reducible refine hcall2.mono ?_)
      clear hcall2
      rintro e1 w20 ⟨v20, rfl, ho, hb⟩
      obtain ⟨A20, c20, rfl, _, _⟩ := Kd.R_reads ho
      have HB20 := Aside0.mk (below_step HBC.out hb)
      have HK2 := Aside0.mk (blk_below HK2.out hb)
      clear ho hb hz0 hz1 hz2 hz3
      by_cases he : e = 0
      · subst he
        obtain ⟨b1, b2, b3⟩ := HE.out rfl
        have B2 := Aside0.mk b2
        have B3 := Aside0.mk b3
        have hz5 : (l2_6.length : Int) ≤ 8796093022208 := by have h_ : l2_6.length ≤ 8796093022208 := HZ.out.2.2.1; omega
        have hz6 : (l2_7.length : Int) ≤ 8796093022208 := by have h_ : l2_7.length ≤ 8796093022208 := HZ.out.2.2.2; omega
        have hb1 : (ws.length : Int) ≤ 1000000 := by omega
        clear b1 b2 b3
        go_wp2_with fail
        refine (backstitchkeep3_worded.calls k true _ HW.out).mono ?_
        rintro e1 w21 ⟨rfl, hb⟩
        have HB21 := Aside0.mk (below_step HB20.out hb)
        have hk2 := blk_below HK2.out hb
        have hx6 : w21.cell? ⟨w.heap.size + 1 + 1, 5 + 1, none⟩ = some (.slice A2_6 l2_6.length c2_6) := (blk_cell hk2 6).trans rfl
        have hx7 : w21.cell? ⟨w.heap.size + 1 + 1, 6 + 1, none⟩ = some (.slice A2_7 l2_7.length c2_7) := (blk_cell hk2 7).trans rfl
        clear hb hk2
        have hgx : g = 0 → ((x.length : Int) == (ws.length : Int) + 1) = true := fun h_ => by have h2_ := B2.out h_; simp; omega
        have hzx : z = 0 → ((y.length : Int) == (ws.length : Int) + 7 + (l2_6.length : Int) + 2 * (l2_7.length : Int)) = true := fun h_ => by have h2_ := B3.out h_; simp at h2_ ⊢; omega
        by_cases hg : g = 0
        · have hg1 : (g != 0) = false := by simp [hg]
          have hg2 : (g == 0) = true := by simp [hg]
          have hg3 := hgx hg
          clear hgx hg
          by_cases hz : z = 0
          · have hz1 : (z != 0) = false := by simp [hz]
            have hz2 : (z == 0) = true := by simp [hz]
            have hz3 := hzx hz
            clear hzx hz
            go_wp2
            go_ret
            exact ⟨rfl, HB21.out⟩
          · have hz1 : (z != 0) = true := by simp [hz]
            have hz2 : (z == 0) = false := by simp [hz]
            clear hzx hz
            go_wp2
            go_ret
            exact ⟨rfl, HB21.out⟩
        · have hg1 : (g != 0) = true := by simp [hg]
          have hg2 : (g == 0) = false := by simp [hg]
          clear hgx hg
          by_cases hz : z = 0
          · have hz1 : (z != 0) = false := by simp [hz]
            have hz2 : (z == 0) = true := by simp [hz]
            have hz3 := hzx hz
            clear hzx hz
            go_wp2
            go_ret
            exact ⟨rfl, HB21.out⟩
          · have hz1 : (z != 0) = true := by simp [hz]
            have hz2 : (z == 0) = false := by simp [hz]
            clear hzx hz
            go_wp2
            go_ret
            exact ⟨rfl, HB21.out⟩
      · have hd4 : (e == 0) = false := by simpa using he
        have hd5 : (e != 0) = true := by simp [he]
        clear he
        go_wp2_with fail
        refine (backstitchkeep3_worded.calls k true _ HW.out).mono ?_
        rintro e1 w5 ⟨rfl, hb⟩
        have HB5 := Aside0.mk (below_step HB20.out hb)
        clear hb
        go_wp2
        go_ret
        exact ⟨rfl, HB5.out⟩
end Go.Proofs.Ytkefekdphkclmaa.PC
