/- What the law functions about heaps share: a heap in a law's memory; what is needed; a deed. -/
import Derived.Test.YtnimidkeoocchaaGenKp
import Derived.Test.YtnimidkeoocchaaRFrom
import Derived.Test.YtnimidkeoocchaaPGd
import Derived.Test.YtnimidkeoocchaaPG1
import Derived.Test.YtnimidkeoocchaaPG1
import Derived.Test.YtnimidkeoocchaaIntRow
import Derived.Deep.DeepCutAuto
import Derived.Deep.CutBlock
set_option linter.unusedVariables false
set_option linter.unusedSimpArgs false
namespace Go.Proofs.Ytnimidkeoocchaa.Gen
open Go.RowKit Go.Proofs.YtnimidkeoocchaaW.PrintWords Go.Proofs.YtnimidkeoocchaaW.PrintLast Go.Proofs.YtnimidkeoocchaaW.PrintMore Go.Proofs.Ytnimidkeoocchaa.PG Go.Proofs.Ytnimidkeoocchaa.Hnd Go.Proofs.Ytnimidkeoocchaa.Rch Go.Proofs.Ytnimidkeoocchaa.Ir

abbrev Deed := S31
theorem take_minN {α : Type} (n : Nat) (l : List α) : l.take (min l.length n) = l.take n := by
  rcases Nat.le_total l.length n with h1 | h1
  · rw [Nat.min_eq_left h1, List.take_length, List.take_of_length_le h1]
  · rw [Nat.min_eq_right h1]
theorem rest10 (a : Int) : ∃ r, backstitchref3_Rest.f a 10 = some r ∧ 0 ≤ r ∧ r < 10 := by
  unfold backstitchref3_Rest.f
  rw [if_neg (by decide)]
  have h1 : Int.tmod a 10 < 10 := Int.tmod_lt_of_pos a (by decide)
  have h2 : -10 < Int.tmod a 10 := Int.lt_tmod_of_pos a (by decide)
  by_cases h : Int.tmod a 10 < 0
  · rw [if_pos h]
    exact ⟨_, rfl, by unfold wrap64; omega⟩
  · rw [if_neg h]
    exact ⟨_, rfl, by omega⟩
theorem at_deed {w : World} {A : Option Addr} {n : Nat} {xs : List Deed} (h : Kd.C k31 w A n xs) (i : Nat) (hi : i < n) : ∃ ad, A = some ad ∧ w.cell? (ad.add (i * 4)) = some (.int .i64 (xs.getD i z31).f0) ∧ w.cell? ⟨(ad.add (i * 4)).block, (ad.add (i * 4)).off + 1, none⟩ = some (.int .i64 (xs.getD i z31).f1) ∧ w.cell? ⟨(ad.add (i * 4)).block, (ad.add (i * 4)).off + 2, none⟩ = some (.int .i64 (xs.getD i z31).f2) ∧ w.cell? ⟨(ad.add (i * 4)).block, (ad.add (i * 4)).off + 3, none⟩ = some (.int .i64 (xs.getD i z31).f3) := by
  obtain ⟨ad, e, h0, h1, h2, h3⟩ := at_T31 h (i : Int) (by omega) (by omega)
  exact ⟨ad, e, by simpa [rd_T31] using h0, by simpa [rd_T31] using h1, by simpa [rd_T31] using h2, by simpa [rd_T31] using h3⟩
theorem GS.bound {W : World} {ok : Nat → Prop} {g : Nat} {nur : Int} {mb cn : Nat} {rm : Int → Bool} {v : Value} {ps : List Value} {l : List Th} (h : GS W ok g nur mb cn rm v ps l) : GS W (fun k => ok k ∧ k < W.heap.size) g nur mb cn rm v ps l :=
  ⟨⟨h.gok, blk_lt h.obj⟩, h.obj, h.row, h.len, h.pl, fun k hk => ⟨h.vok k hk, (h.row.lt k hk).2⟩, fun p hp k hk => ⟨h.pok p hp k hk, by
    obtain ⟨i, hi, rfl⟩ := List.getElem_of_mem hp
    exact ((h.pl i (by have := h.len; omega)).lt k hk).2⟩, h.sep, ⟨h.mok, h.set.lt⟩, h.set⟩
/-- A heap between two deeds, in a law's own memory: what is its own lies in blocks below N; at most c keys were remembered. -/
def HpO (w0 W : World) (N : Nat) (ok : Nat → Prop) (g : Nat) (nur : Int) (l : List Th) (rm : Int → Bool) (c : Nat) : Prop := ∃ v ps mb cn, GS W ok g nur mb cn rm v ps l ∧ GI nur l rm ∧ (∀ k, ok k → k < N ∧ w0.heap.size ≤ k) ∧ N ≤ W.heap.size ∧ Below w0.heap.size w0 W ∧ cn ≤ c ∧ c ≤ 10000 ∧ 1 ≤ nur
section
variable {w0 W W1 : World} {N : Nat} {ok : Nat → Prop} {g : Nat} {nur : Int} {l : List Th} {rm : Int → Bool} {c : Nat}
theorem HpO.below (h : HpO w0 W N ok g nur l rm c) (hb : Below W.heap.size W W1) : HpO w0 W1 N ok g nur l rm c := by
  obtain ⟨v, ps, mb, cn, h1, h2, h3, h4, h5, h6⟩ := h
  exact ⟨v, ps, mb, cn, h1.below hb, h2, h3, Nat.le_trans h4 hb.size, below_step h5 hb, h6⟩
theorem HpO.up (h : HpO w0 W N ok g nur l rm c) (hb : Below W.heap.size W W1) : HpO w0 W1 W1.heap.size ok g nur l rm c := by
  obtain ⟨v, ps, mb, cn, h1, h2, h3, h4, h5, h6⟩ := h
  exact ⟨v, ps, mb, cn, h1.below hb, h2, fun k hk => ⟨Nat.lt_of_lt_of_le (h3 k hk).1 (Nat.le_trans h4 hb.size), (h3 k hk).2⟩, Nat.le_refl _, below_step h5 hb, h6⟩
theorem HpO.gi (h : HpO w0 W N ok g nur l rm c) : GI nur l rm := by
  obtain ⟨v, ps, mb, cn, h1, h2, h3⟩ := h
  exact h2
theorem HpO.nur1 (h : HpO w0 W N ok g nur l rm c) : 1 ≤ nur := by
  obtain ⟨v, ps, mb, cn, h1, h2, h3, h4, h5, h6⟩ := h
  exact h6.2.2
theorem HpO.low (h : HpO w0 W N ok g nur l rm c) : Below w0.heap.size w0 W := by
  obtain ⟨v, ps, mb, cn, h1, h2, h3, h4, h5, h6⟩ := h
  exact h5
theorem HpO.bd (h : HpO w0 W N ok g nur l rm c) : ∀ k, ok k → k < N := by
  obtain ⟨v, ps, mb, cn, h1, h2, h3, h4, h5⟩ := h
  exact fun k hk => (h3 k hk).1
theorem HpO.more {c' : Nat} (h : HpO w0 W N ok g nur l rm c) (hc : c ≤ c') (hc' : c' ≤ 10000) : HpO w0 W N ok g nur l rm c' := by
  obtain ⟨v, ps, mb, cn, h1, h2, h3, h4, h5, h6, h7, h8⟩ := h
  exact ⟨v, ps, mb, cn, h1, h2, h3, h4, h5, Nat.le_trans h6 hc, hc', h8⟩
/-- What was done elsewhere. -/
theorem HpO.else_ {ok2 : Nat → Prop} (h : HpO w0 W N ok g nur l rm c) (hf : Fr ok2 W W1) (hn : ∀ k, ok k → ¬ ok2 k) (h2 : ∀ k, ok2 k → w0.heap.size ≤ k) : HpO w0 W1 N ok g nur l rm c := by
  obtain ⟨v, ps, mb, cn, h1, h2', h3, h4, h5, h6⟩ := h
  exact ⟨v, ps, mb, cn, h1.fr hf hn, h2', h3, Nat.le_trans h4 hf.size, h5.trans (hf.to_below h5.size h2), h6⟩
/-- One deed, with what is the heap's own told. -/
theorem HpO.deed (h : HpO w0 W N ok g nur l rm c) (hc : c < 10000) (d a b n : Int) :
    Calls Try.prog 18 #[.pointer (some ⟨g, 0, none⟩), .agg #[.int .i64 d, .int .i64 a, .int .i64 b, .int .i64 n]] W fun e w' => e = .returned (.tuple #[.int .i64 (doL nur l rm d a b n).many, .int .i64 (doL nur l rm d a b n).err]) ∧ HpO w0 w' w'.heap.size (fun k => (ok k ∨ W.heap.size ≤ k) ∧ k < w'.heap.size) g nur (doL nur l rm d a b n).l (doL nur l rm d a b n).rm (c + 1) ∧ Fr ok W w' := by
  obtain ⟨v, ps, mb, cn, h1, h2, h3, h4, h5, h6, h7, h8⟩ := h
  refine (do_calls W h1 h2.ok (fun k hk => Nat.lt_of_lt_of_le (h3 k hk).1 h4) (by omega) (fun x _ hx => ⟨(h2.rem x hx).1, (h2.rem x hx).2.1⟩) d a b n).mono ?_
  rintro e w' ⟨he, ⟨v', ps', cn', hcn, hm⟩, hf⟩
  refine ⟨he, ⟨v', ps', mb, cn', hm.bound, do_gi h2 h8 d a b n, fun k hk => ⟨hk.2, ?_⟩, Nat.le_refl _, ?_, by omega, by omega, h8⟩, hf⟩
  · rcases hk.1 with h_ | h_
    · exact (h3 k h_).2
    · exact Nat.le_trans h5.size h_
  · exact h5.trans (hf.to_below h5.size (fun k hk => (h3 k hk).2))
theorem HpO.graph (h : HpO w0 W N ok g nur l rm c) : Calls Try.prog 20 #[.pointer (some ⟨g, 0, none⟩)] W fun e w' => ∃ AH cH AR cR, e = .returned (.agg #[.slice AH (graphL l).length cH, .slice AR (heldL l).length cR]) ∧ KH.R 29 w' W.heap.size (fun _ => True) (.slice AH (graphL l).length cH) (graphL l) ∧ (Kd.int .i64).R 3 w' W.heap.size (fun _ => True) (.slice AR (heldL l).length cR) (heldL l) ∧ Below W.heap.size W w' := by
  obtain ⟨v, ps, mb, cn, h1, h2, h3, h4⟩ := h
  refine (graph_calls W h1 h2.ok).mono ?_
  rintro e w' ⟨vh, vr, he, hh, hr, hb⟩
  obtain ⟨AH, cH, eH⟩ := Kd.R_slice hh
  subst eH
  obtain ⟨AR, cR, eR⟩ := Kd.R_slice hr
  subst eR
  exact ⟨AH, cH, AR, cR, he, hh, hr, hb⟩
theorem HpO.young (h : HpO w0 W N ok g nur l rm c) : Calls Try.prog 17 #[.pointer (some ⟨g, 0, none⟩)] W fun e w' => ∃ A c, e = .returned (.slice A (areL l 0).length c) ∧ Kd.R (Kd.int .i64) 3 w' W.heap.size (fun _ => True) (.slice A (areL l 0).length c) (areL l 0) ∧ Below W.heap.size W w' := by
  obtain ⟨v, ps, mb, cn, h1, h2, h3, h4⟩ := h
  refine (young_calls W h1 (by have := h2.len; omega)).mono ?_
  rintro e w' ⟨v0, he, hr, hb⟩
  obtain ⟨A, c, e0⟩ := Kd.R_slice hr
  subst e0
  exact ⟨A, c, he, hr, hb⟩
theorem HpO.barrier (h : HpO w0 W N ok g nur l rm c) : Calls Try.prog 23 #[.pointer (some ⟨g, 0, none⟩)] W fun e w' => ∃ A c, e = .returned (.slice A (barL l rm).length c) ∧ Kd.R (Kd.int .i64) 3 w' W.heap.size (fun _ => True) (.slice A (barL l rm).length c) (barL l rm) ∧ Below W.heap.size W w' := by
  obtain ⟨v, ps, mb, cn, h1, h2, h3, h4, h5, h6, h7, h8⟩ := h
  refine (barrier_calls W h1 h2.ok (fun x _ hx => ⟨(h2.rem x hx).1, (h2.rem x hx).2.1⟩) (by omega)).mono ?_
  rintro e w' ⟨v0, he, ho, hb⟩
  have hr : Kd.R (Kd.int .i64) 3 w' W.heap.size (fun _ => True) v0 (barL l rm) := Kd.R_of_own (enc := Value.int .i64) (h1 := fun _ => rfl) ho (fun _ _ => trivial)
  obtain ⟨A, c, e0⟩ := Kd.R_slice hr
  subst e0
  exact ⟨A, c, he, hr, hb⟩
theorem HpO.new {w : World} (hn : 1 ≤ nur) (h : GS W (fun k => k = w.heap.size + 1 ∨ k = w.heap.size) (w.heap.size + 1) nur w.heap.size 0 (fun _ => false) (.slice none 0 0) [] []) (hb : Below w0.heap.size w0 w) (hb1 : Below w.heap.size w W) : HpO w0 W W.heap.size (fun k => k = w.heap.size + 1 ∨ k = w.heap.size) (w.heap.size + 1) nur [] (fun _ => false) 0 :=
  ⟨_, _, _, _, h, gi_nil hn, fun k hk => by rcases hk with rfl | rfl; exact ⟨blk_lt h.obj, Nat.le_trans hb.size (Nat.le_succ _)⟩; exact ⟨h.set.lt, hb.size⟩, Nat.le_refl _, below_step hb hb1, Nat.le_refl _, by omega, hn⟩
end
/-- A row that lies in blocks from N on stays, where only the heap's own is written. -/
theorem R_deed {α : Type} {d : Kd α} {e B N : Nat} {W W1 : World} {ok : Nat → Prop} {v : Value} {xs : List α} (h : d.R e W B (fun _ => True) v xs) (hf : Fr ok W W1) (hN : ∀ k, ok k → k < N) (hB : N ≤ B) : d.R e W1 B (fun _ => True) v xs :=
  Kd.R_mono (Kd.R_step (Kd.R_bound h) (fun k hk hlt => hf.blk k hlt (fun ho => by have := hN k ho; have := hk.2.1; omega))) (fun _ _ => trivial)
/-- A row that is not the heap's own stays so. -/
theorem R_apart {α : Type} {d : Kd α} {e B : Nat} {W W1 : World} {ok : Nat → Prop} {v : Value} {xs : List α} (h : d.R e W B (fun k => ¬ ok k) v xs) (hf : Fr ok W W1) : d.R e W1 B (fun k => ¬ ((ok k ∨ W.heap.size ≤ k) ∧ k < W1.heap.size)) v xs :=
  Kd.R_mono (Kd.R_step (Kd.R_bound h) (fun k hk hlt => hf.blk k hlt hk.1)) (fun k hk h2 => by rcases h2.1 with h_ | h_; exact hk.1 h_; have := hk.2.2.1; omega)
/-! ### Rising, and what is needed -/
def rise (l : List Bool) : List Int := ((List.range l.length).filter fun i => l.getD i false).map fun (i : Nat) => (i : Int)
def riseFrom (l : List Bool) (i : Nat) : List Int := (((List.range l.length).drop i).filter fun i => l.getD i false).map fun (i : Nat) => (i : Int)
theorem rdB_ (l : List Bool) (i : Nat) (h : i < l.length) : rdOf false l (i : Int) = l.getD i false := by unfold rdOf; simp
theorem wrap_up_ (i : Int) (h0 : -4611686018427387904 ≤ i) (h : i ≤ 4611686018427387904) : wrap64 (i + 1) = i + 1 := by unfold wrap64; omega
theorem rising_l0 (l : List Bool) (hl : l.length ≤ 1000000) : ∀ (d i k : Nat) (acc : List Int), l.length - i = d → i ≤ l.length → acc.length ≤ i → d < k → backstitchref3_Rising.l0 k acc l (l.length : Int) (i : Int) = some (acc ++ riseFrom l i) := by
  intro d
  induction d with
  | zero =>
    intro i k acc hd hi ha hk
    obtain ⟨k, rfl⟩ : ∃ q, k = q + 1 := ⟨k - 1, by omega⟩
    simp only [backstitchref3_Rising.l0]
    rw [if_neg (by omega)]
    unfold riseFrom
    rw [List.drop_eq_nil_of_le (by simp; omega)]
    simp
  | succ d ih =>
    intro i k acc hd hi ha hk
    obtain ⟨k, rfl⟩ : ∃ q, k = q + 1 := ⟨k - 1, by omega⟩
    have hlt : i < l.length := by omega
    have hdrop : (List.range l.length).drop i = i :: (List.range l.length).drop (i + 1) := by
      rw [List.drop_eq_getElem_cons (by simpa using hlt)]; simp
    have e := wrap_up_ (i : Int) (by omega) (by omega)
    simp only [backstitchref3_Rising.l0]
    rw [if_pos (by omega), if_pos (by omega), if_pos (by omega), rdB_ l i hlt, e]
    unfold riseFrom
    rw [hdrop, List.filter_cons]
    by_cases h : l.getD i false = true
    · have := ih (i + 1) k (acc ++ [(i : Int)]) (by omega) (by omega) (by simp; omega) (by omega)
      rw [show ((i + 1 : Nat) : Int) = (i : Int) + 1 from by omega] at this
      rw [if_pos h, if_pos h, if_pos (by omega), this, List.append_assoc]
      rfl
    · have := ih (i + 1) k acc (by omega) (by omega) (by omega) (by omega)
      rw [show ((i + 1 : Nat) : Int) = (i : Int) + 1 from by omega] at this
      rw [if_neg h, if_neg h, this]
      rfl
theorem rising_f (l : List Bool) (hl : l.length ≤ 1000000) (k : Nat) (hk : l.length < k) : backstitchref3_Rising.f k l = some (rise l) := by
  unfold backstitchref3_Rising.f
  have := rising_l0 l hl l.length 0 k [] (by omega) (by omega) (by simp) hk
  rw [show ((0 : Nat) : Int) = 0 from rfl] at this
  rw [this]
  rfl
theorem mem_rise {l : List Bool} {x : Int} : x ∈ rise l ↔ (0 ≤ x ∧ x < (l.length : Int)) ∧ l.getD x.toNat false = true := by
  unfold rise
  simp only [List.mem_map, List.mem_filter, List.mem_range]
  constructor
  · rintro ⟨i, ⟨h1, h2⟩, rfl⟩
    exact ⟨by omega, by simpa using h2⟩
  · rintro ⟨h1, h2⟩
    exact ⟨x.toNat, ⟨by omega, h2⟩, by omega⟩
theorem rise_length (l : List Bool) : (rise l).length ≤ l.length := by
  unfold rise
  rw [List.length_map]
  exact Nat.le_trans (List.length_filter_le _ _) (by simp)
/-- A row that is newer than all that is the heap's own. -/
theorem R_newer {α : Type} {d : Kd α} {e B N : Nat} {w0 W : World} {ok : Nat → Prop} {v : Value} {xs : List α} (h : d.R e W B (fun _ => True) v xs) (hN : ∀ k, ok k → k < N) (hB : N ≤ B) (h0 : w0.heap.size ≤ B) : d.R e W w0.heap.size (fun k => ¬ ok k) v xs :=
  Kd.R_lower (Kd.R_mono (Kd.R_bound h) (fun k hk ho => by have := hN k ho; have := hk.2.1; omega)) h0
/-! ### The fact 'young' -/
theorem fact_do : doL 3 [] (fun _ => false) 1 0 0 2 = ⟨[newTh 2], fun _ => false, 0, 0⟩ := by
  unfold doL makeL; simp [areL, areTo]
theorem fact_are : areL [newTh 2] 0 = [0] := by simp [areL, areTo, newTh, thAt]
set_option maxHeartbeats 16000000 in
set_option maxRecDepth 100000 in
theorem fact_calls (w : World) : Calls Try.prog 14 #[] w fun e w' => e = .returned (.bool true) ∧ Below w.heap.size w w' := by
  go_enter Try.func14, Try.ntmps14
  go_wp2_with fail
  refine (new_calls w 3 (by omega) (by omega)).mono ?_
  rintro e w3 ⟨rfl, hm3, hb3⟩
  have HS3 := Aside0.mk (HpO.new (by omega) hm3 (Below.refl _ w) hb3)
  clear hm3 hb3
  generalize w.heap.size + 1 = g at HS3 ⊢
  have HDC := Aside0.mk (HS3.out.deed (by omega) 1 0 0 2)
  rw [fact_do] at HDC
  clear HS3
  go_wp2_with fail
  refine HDC.out.mono ?_
  rintro e w4 ⟨rfl, hs4, hf4⟩
  have HS4 := Aside0.mk hs4
  clear hs4 hf4 HDC
  go_wp2_with fail
  refine (HS4.out.young).mono ?_
  rintro e w5 ⟨A, c, he, hr, hb5⟩
  simp only [fact_are] at he hr
  subst he
  obtain ⟨hC, hc, _⟩ := R_C hr
  have HS5 := Aside0.mk (HS4.out.below hb5)
  have hbx := below_alloc (Below.refl w5.heap.size w5) (Obj.cells #[.int .i64 0] 3)
  have HBX := Aside0.mk hbx
  have HEQ := Aside0.mk (eq_calls _ (x := [0]) (y := [0]) (Kd.C_below hC hbx) hc (C_one w5 0) (Nat.le_refl 1) (by simp))
  simp only [List.length_cons, List.length_nil, Nat.zero_add, decide_true] at HEQ
  clear hr hb5 hC hc hbx HS4
  go_wp2_with fail
  refine HEQ.out.mono ?_
  rintro e w6 ⟨rfl, hb6⟩
  have HS6 := Aside0.mk (HS5.out.below (below_step HBX.out hb6))
  clear hb6 HS5 HEQ HBX
  go_wp2_with fail
  refine (HS6.out.graph).mono ?_
  rintro e w7 ⟨AH, cH, AR, cR, rfl, hh7, hr7, hb7⟩
  have HL := Aside0.mk ((HS6.out.below hb7).low)
  have hgl : (graphL [newTh 2]).length = 1 := by simp [graphL]
  rw [hgl]
  generalize (heldL [newTh 2]).length = hn
  have hfd : ∀ w, (Instr.field 38 (.agg #[.slice AH 1 cH, .slice AR hn cR]) 0).run Try.prog w = .ok (.slice AH 1 cH) w := fun _ => by kernel_rfl
  clear hh7 hr7 hb7 hgl
  go_wp2_with fail
  go_ret
  exact ⟨rfl, HL.out⟩
end Go.Proofs.Ytnimidkeoocchaa.Gen
