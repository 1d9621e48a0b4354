/- What the law functions about markers share: a marker in a law's memory; what is needed; a deed. -/
import Derived.Test.YtnimidkeoocchaaMarkKp
import Derived.Test.YtnimidkeoocchaaRFrom
import Derived.Test.YtnimidkeoocchaaPK1
import Derived.Test.YtnimidkeoocchaaPK1
import Derived.Deep.DeepCutAuto
import Derived.Deep.CutBlock
set_option linter.unusedVariables false
set_option linter.unusedSimpArgs false
namespace Go.Proofs.Ytnimidkeoocchaa.Mrk
open Go.RowKit Go.Proofs.YtnimidkeoocchaaW.PrintWords Go.Proofs.YtnimidkeoocchaaW.PrintLast Go.Proofs.YtnimidkeoocchaaW.PrintMore Go.Proofs.Ytnimidkeoocchaa.PK Go.Proofs.Ytnimidkeoocchaa.Hnd Go.Proofs.Ytnimidkeoocchaa.Rch

theorem zz0 : decide ((0 : Int) < wrap64 (((0 : Nat) : Int) + ((0 : Nat) : Int))) = false := decide_eq_false (by unfold wrap64; omega)
abbrev Deed := S31
theorem take_minN {α : Type} (n : Nat) (l : List α) : l.take (min l.length n) = l.take n := by
  rcases Nat.le_total l.length n with h1 | h1
  · rw [Nat.min_eq_left h1, List.take_length, List.take_of_length_le h1]
  · rw [Nat.min_eq_right h1]
theorem rest2 (a : Int) : ∃ r, backstitchref3_Rest.f a 2 = some r ∧ (r = 0 ∨ r = 1) := by
  unfold backstitchref3_Rest.f
  rw [if_neg (by decide)]
  have h1 := Int.tmod_two_eq a
  by_cases h : Int.tmod a 2 < 0
  · rw [if_pos h]
    have e : Int.tmod a 2 = -1 := by omega
    rw [e]
    exact ⟨_, rfl, .inr (by unfold wrap64; omega)⟩
  · rw [if_neg h]
    exact ⟨_, rfl, by omega⟩
def deedsOk (l : List Deed) : Prop := ∀ x ∈ l, x.f3 ≤ 9223372036854775807
theorem at_deed {w : World} {A : Option Addr} {n : Nat} {xs : List Deed} (h : Kd.C k31 w A n xs) (i : Nat) (hi : i < n) : ∃ ad, A = some ad ∧ w.cell? (ad.add (i * 4)) = some (.int .i64 (xs.getD i z31).f0) ∧ w.cell? ⟨(ad.add (i * 4)).block, (ad.add (i * 4)).off + 1, none⟩ = some (.int .i64 (xs.getD i z31).f1) ∧ w.cell? ⟨(ad.add (i * 4)).block, (ad.add (i * 4)).off + 2, none⟩ = some (.int .i64 (xs.getD i z31).f2) ∧ w.cell? ⟨(ad.add (i * 4)).block, (ad.add (i * 4)).off + 3, none⟩ = some (.int .i64 (xs.getD i z31).f3) := by
  obtain ⟨ad, e, h0, h1, h2, h3⟩ := at_T31 h (i : Int) (by omega) (by omega)
  exact ⟨ad, e, by simpa [rd_T31] using h0, by simpa [rd_T31] using h1, by simpa [rd_T31] using h2, by simpa [rd_T31] using h3⟩
/-- A marker between two deeds, in a law's own memory: what is its own lies in blocks below N. -/
def MkO (w0 W : World) (N : Nat) (ok : Nat → Prop) (g : Nat) (kind : Int) (mk : Bool) (l : List Th) : Prop := ∃ v ps, MS W ok g kind mk v ps l ∧ Inv mk l ∧ (∀ k, ok k → k < N ∧ w0.heap.size ≤ k) ∧ N ≤ W.heap.size ∧ Below w0.heap.size w0 W
def MkSt (w0 W : World) (g : Nat) (kind : Int) (mk : Bool) (l : List Th) : Prop := ∃ ok, MkO w0 W W.heap.size ok g kind mk l
theorem MkO.below {w0 W W1 : World} {N : Nat} {ok : Nat → Prop} {g : Nat} {kind : Int} {mk : Bool} {l : List Th} (h : MkO w0 W N ok g kind mk l) (hb : Below W.heap.size W W1) : MkO w0 W1 N ok g kind mk l := by
  obtain ⟨v, ps, h1, h2, h3, h4, h5⟩ := h
  exact ⟨v, ps, h1.below hb, h2, h3, Nat.le_trans h4 hb.size, below_step h5 hb⟩
theorem MkO.st {w0 W : World} {N : Nat} {ok : Nat → Prop} {g : Nat} {kind : Int} {mk : Bool} {l : List Th} (h : MkO w0 W N ok g kind mk l) : MkSt w0 W g kind mk l := by
  obtain ⟨v, ps, h1, h2, h3, h4, h5⟩ := h
  exact ⟨ok, v, ps, h1, h2, fun k hk => ⟨Nat.lt_of_lt_of_le (h3 k hk).1 h4, (h3 k hk).2⟩, Nat.le_refl _, h5⟩
theorem MkSt.below {w0 W W1 : World} {g : Nat} {kind : Int} {mk : Bool} {l : List Th} (h : MkSt w0 W g kind mk l) (hb : Below W.heap.size W W1) : MkSt w0 W1 g kind mk l := by
  obtain ⟨ok, h⟩ := h
  exact (h.below hb).st
theorem MkO.do_ {w0 W : World} {N : Nat} {ok : Nat → Prop} {g : Nat} {kind : Int} {mk : Bool} {l : List Th} (h : MkO w0 W N ok g kind mk l) (d a b n : Int) (hn : n ≤ 9223372036854775807) :
    Calls Try.prog 29 #[.pointer (some ⟨g, 0, none⟩), .agg #[.int .i64 d, .int .i64 a, .int .i64 b, .int .i64 n]] W fun e w' => e = .returned (.tuple #[.int .i64 (doL kind mk l d a b n).many, .int .i64 (doL kind mk l d a b n).err]) ∧ MkSt w0 w' g kind (doL kind mk l d a b n).mk (doL kind mk l d a b n).l ∧ Fr (fun k => k < N ∧ w0.heap.size ≤ k) W w' := by
  obtain ⟨v, ps, h1, h2, h3, h4, h5⟩ := h
  refine (do_calls W h1 h2.ok (fun k hk => Nat.lt_of_lt_of_le (h3 k hk).1 h4) d a b n hn).mono ?_
  rintro e w' ⟨he, ⟨v', ps', hm⟩, hf⟩
  refine ⟨he, ⟨_, v', ps', hm.bound, do_inv h2 d a b n, fun k hk => ⟨hk.2, ?_⟩, Nat.le_refl _, ?_⟩, ⟨hf.os, hf.tape, hf.output, hf.size, fun k hk hn => hf.blk k hk (fun ho => hn (h3 k ho))⟩⟩
  · rcases hk.1 with h_ | h_
    · exact (h3 k h_).2
    · exact Nat.le_trans h5.size h_
  · exact h5.trans (hf.to_below h5.size (fun k hk => (h3 k hk).2))
theorem MkSt.marking {w0 W : World} {g : Nat} {kind : Int} {mk : Bool} {l : List Th} (h : MkSt w0 W g kind mk l) : Calls Try.prog 28 #[.pointer (some ⟨g, 0, none⟩)] W fun e w' => e = .returned (.bool mk) ∧ Below W.heap.size W w' := by
  obtain ⟨ok, v, ps, h1, h2, h3, h4⟩ := h
  exact marking_calls W h1
theorem MkSt.colours {w0 W : World} {g : Nat} {kind : Int} {mk : Bool} {l : List Th} (h : MkSt w0 W g kind mk l) : Calls Try.prog 27 #[.pointer (some ⟨g, 0, none⟩)] W fun e w' => ∃ v0, e = .returned v0 ∧ Kd.R (Kd.int .i64) 3 w' W.heap.size (fun _ => True) v0 (col l) ∧ Below W.heap.size W w' := by
  obtain ⟨ok, v, ps, h1, h2, h3, h4⟩ := h
  exact colours_calls W h1 h2.ok.len
theorem MkSt.inv {w0 W : World} {g : Nat} {kind : Int} {mk : Bool} {l : List Th} (h : MkSt w0 W g kind mk l) : Inv mk l := by
  obtain ⟨ok, v, ps, h1, h2, h3, h4⟩ := h
  exact h2
theorem MkSt.low {w0 W : World} {g : Nat} {kind : Int} {mk : Bool} {l : List Th} (h : MkSt w0 W g kind mk l) : Below w0.heap.size w0 W := by
  obtain ⟨ok, v, ps, h1, h2, h3, h4, h5⟩ := h
  exact h5
theorem MkSt.start {w0 w W : World} {kind : Int} (h : MS W (fun k => k = w.heap.size) w.heap.size kind false (.slice none 0 0) [] []) (hb : Below w0.heap.size w0 w) (hb1 : Below w.heap.size w W) : MkSt w0 W w.heap.size kind false [] :=
  ⟨_, _, _, h, inv_nil _, fun k hk => by subst hk; exact ⟨blk_lt h.obj, hb.size⟩, Nat.le_refl _, below_step hb hb1⟩

/-- One deed, with what is the marker's own told. -/
theorem MkO.deed {w0 W : World} {N : Nat} {ok : Nat → Prop} {g : Nat} {kind : Int} {mk : Bool} {l : List Th} (h : MkO w0 W N ok g kind mk l) (d a b n : Int) (hn : n ≤ 9223372036854775807) :
    Calls Try.prog 29 #[.pointer (some ⟨g, 0, none⟩), .agg #[.int .i64 d, .int .i64 a, .int .i64 b, .int .i64 n]] W fun e w' => e = .returned (.tuple #[.int .i64 (doL kind mk l d a b n).many, .int .i64 (doL kind mk l d a b n).err]) ∧ MkO w0 w' w'.heap.size (fun k => (ok k ∨ W.heap.size ≤ k) ∧ k < w'.heap.size) g kind (doL kind mk l d a b n).mk (doL kind mk l d a b n).l ∧ Fr ok W w' := by
  obtain ⟨v, ps, h1, h2, h3, h4, h5⟩ := h
  refine (do_calls W h1 h2.ok (fun k hk => Nat.lt_of_lt_of_le (h3 k hk).1 h4) d a b n hn).mono ?_
  rintro e w' ⟨he, ⟨v', ps', hm⟩, hf⟩
  refine ⟨he, ⟨v', ps', hm.bound, do_inv h2 d a b n, fun k hk => ⟨hk.2, ?_⟩, Nat.le_refl _, ?_⟩, hf⟩
  · rcases hk.1 with h_ | h_
    · exact (h3 k h_).2
    · exact Nat.le_trans h5.size h_
  · exact h5.trans (hf.to_below h5.size (fun k hk => (h3 k hk).2))
theorem MkO.marking {w0 W : World} {N : Nat} {ok : Nat → Prop} {g : Nat} {kind : Int} {mk : Bool} {l : List Th} (h : MkO w0 W N ok g kind mk l) : Calls Try.prog 28 #[.pointer (some ⟨g, 0, none⟩)] W fun e w' => e = .returned (.bool mk) ∧ Below W.heap.size W w' := by
  obtain ⟨v, ps, h1, h2, h3, h4⟩ := h
  exact marking_calls W h1
theorem MkO.colours {w0 W : World} {N : Nat} {ok : Nat → Prop} {g : Nat} {kind : Int} {mk : Bool} {l : List Th} (h : MkO w0 W N ok g kind mk l) : Calls Try.prog 27 #[.pointer (some ⟨g, 0, none⟩)] W fun e w' => ∃ v0, e = .returned v0 ∧ Kd.R (Kd.int .i64) 3 w' W.heap.size (fun _ => True) v0 (col l) ∧ Below W.heap.size W w' := by
  obtain ⟨v, ps, h1, h2, h3, h4⟩ := h
  exact colours_calls W h1 h2.ok.len
theorem MkO.graph {w0 W : World} {N : Nat} {ok : Nat → Prop} {g : Nat} {kind : Int} {mk : Bool} {l : List Th} (h : MkO w0 W N ok g kind mk l) : Calls Try.prog 30 #[.pointer (some ⟨g, 0, none⟩)] W fun e w' => ∃ AH cH AR cR, e = .returned (.agg #[.slice AH (graphL l).length cH, .slice AR (heldL l).length cR]) ∧ KH.R 29 w' W.heap.size (fun _ => True) (.slice AH (graphL l).length cH) (graphL l) ∧ (Kd.int .i64).R 3 w' W.heap.size (fun _ => True) (.slice AR (heldL l).length cR) (heldL l) ∧ Below W.heap.size W w' := by
  obtain ⟨v, ps, h1, h2, h3, h4⟩ := h
  refine (graph_calls W h1 h2.ok).mono ?_
  rintro e w' ⟨vh, vr, he, hh, hr, hb⟩
  obtain ⟨AH, cH, eH⟩ := Kd.R_slice hh
  subst eH
  obtain ⟨AR, cR, eR⟩ := Kd.R_slice hr
  subst eR
  exact ⟨AH, cH, AR, cR, he, hh, hr, hb⟩
theorem MkO.ok_ {w0 W : World} {N : Nat} {ok : Nat → Prop} {g : Nat} {kind : Int} {mk : Bool} {l : List Th} (h : MkO w0 W N ok g kind mk l) : OkL l := by
  obtain ⟨v, ps, h1, h2, h3⟩ := h
  exact h2.ok
theorem MkO.low {w0 W : World} {N : Nat} {ok : Nat → Prop} {g : Nat} {kind : Int} {mk : Bool} {l : List Th} (h : MkO w0 W N ok g kind mk l) : Below w0.heap.size w0 W := by
  obtain ⟨v, ps, h1, h2, h3, h4, h5⟩ := h
  exact h5
theorem MkO.bd {w0 W : World} {N : Nat} {ok : Nat → Prop} {g : Nat} {kind : Int} {mk : Bool} {l : List Th} (h : MkO w0 W N ok g kind mk l) : ∀ k, ok k → k < N := by
  obtain ⟨v, ps, h1, h2, h3, h4, h5⟩ := h
  exact fun k hk => (h3 k hk).1
theorem MkO.new {w0 w W : World} {kind : Int} (h : MS W (fun k => k = w.heap.size) w.heap.size kind false (.slice none 0 0) [] []) (hb : Below w0.heap.size w0 w) (hb1 : Below w.heap.size w W) : MkO w0 W W.heap.size (fun k => k = w.heap.size) w.heap.size kind false [] :=
  ⟨_, _, h, inv_nil _, fun k hk => by subst hk; exact ⟨blk_lt h.obj, hb.size⟩, Nat.le_refl _, below_step hb hb1⟩
theorem MkO.up {w0 W W1 : World} {N : Nat} {ok : Nat → Prop} {g : Nat} {kind : Int} {mk : Bool} {l : List Th} (h : MkO w0 W N ok g kind mk l) (hb : Below W.heap.size W W1) : MkO w0 W1 W1.heap.size ok g kind mk l := by
  obtain ⟨v, ps, h1, h2, h3, h4, h5⟩ := h
  exact ⟨v, ps, h1.below hb, h2, fun k hk => ⟨Nat.lt_of_lt_of_le (h3 k hk).1 (Nat.le_trans h4 hb.size), (h3 k hk).2⟩, Nat.le_refl _, below_step h5 hb⟩
/-- A row that lies in blocks from N on stays, where only the marker's own is written. -/
theorem R_deed {α : Type} {d : Kd α} {e B N : Nat} {W W1 : World} {ok : Nat → Prop} {v : Value} {xs : List α} (h : d.R e W B (fun _ => True) v xs) (hf : Fr ok W W1) (hN : ∀ k, ok k → k < N) (hB : N ≤ B) : d.R e W1 B (fun _ => True) v xs :=
  Kd.R_mono (Kd.R_step (Kd.R_bound h) (fun k hk hlt => hf.blk k hlt (fun ho => by have := hN k ho; have := hk.2.1; omega))) (fun _ _ => trivial)
/-- A row that is not the marker's own stays so. -/
theorem R_apart {α : Type} {d : Kd α} {e B : Nat} {W W1 : World} {ok : Nat → Prop} {v : Value} {xs : List α} (h : d.R e W B (fun k => ¬ ok k) v xs) (hf : Fr ok W W1) : d.R e W1 B (fun k => ¬ ((ok k ∨ W.heap.size ≤ k) ∧ k < W1.heap.size)) v xs :=
  Kd.R_mono (Kd.R_step (Kd.R_bound h) (fun k hk hlt => hf.blk k hlt hk.1)) (fun k hk h2 => by rcases h2.1 with h_ | h_; exact hk.1 h_; have := hk.2.2.1; omega)
/-! ### Rising, and what is needed -/
def rise (l : List Bool) : List Int := ((List.range l.length).filter fun i => l.getD i false).map fun (i : Nat) => (i : Int)
def riseFrom (l : List Bool) (i : Nat) : List Int := (((List.range l.length).drop i).filter fun i => l.getD i false).map fun (i : Nat) => (i : Int)
theorem rdB_ (l : List Bool) (i : Nat) (h : i < l.length) : rdOf false l (i : Int) = l.getD i false := by unfold rdOf; simp
theorem wrap_up_ (i : Int) (h0 : -4611686018427387904 ≤ i) (h : i ≤ 4611686018427387904) : wrap64 (i + 1) = i + 1 := by unfold wrap64; omega
theorem rising_l0 (l : List Bool) (hl : l.length ≤ 1000000) : ∀ (d i k : Nat) (acc : List Int), l.length - i = d → i ≤ l.length → acc.length ≤ i → d < k → backstitchref3_Rising.l0 k acc l (l.length : Int) (i : Int) = some (acc ++ riseFrom l i) := by
  intro d
  induction d with
  | zero =>
    intro i k acc hd hi ha hk
    obtain ⟨k, rfl⟩ : ∃ q, k = q + 1 := ⟨k - 1, by omega⟩
    simp only [backstitchref3_Rising.l0]
    rw [if_neg (by omega)]
    unfold riseFrom
    rw [List.drop_eq_nil_of_le (by simp; omega)]
    simp
  | succ d ih =>
    intro i k acc hd hi ha hk
    obtain ⟨k, rfl⟩ : ∃ q, k = q + 1 := ⟨k - 1, by omega⟩
    have hlt : i < l.length := by omega
    have hdrop : (List.range l.length).drop i = i :: (List.range l.length).drop (i + 1) := by
      rw [List.drop_eq_getElem_cons (by simpa using hlt)]; simp
    have e := wrap_up_ (i : Int) (by omega) (by omega)
    simp only [backstitchref3_Rising.l0]
    rw [if_pos (by omega), if_pos (by omega), if_pos (by omega), rdB_ l i hlt, e]
    unfold riseFrom
    rw [hdrop, List.filter_cons]
    by_cases h : l.getD i false = true
    · have := ih (i + 1) k (acc ++ [(i : Int)]) (by omega) (by omega) (by simp; omega) (by omega)
      rw [show ((i + 1 : Nat) : Int) = (i : Int) + 1 from by omega] at this
      rw [if_pos h, if_pos h, if_pos (by omega), this, List.append_assoc]
      rfl
    · have := ih (i + 1) k acc (by omega) (by omega) (by omega) (by omega)
      rw [show ((i + 1 : Nat) : Int) = (i : Int) + 1 from by omega] at this
      rw [if_neg h, if_neg h, this]
      rfl
theorem rising_f (l : List Bool) (hl : l.length ≤ 1000000) (k : Nat) (hk : l.length < k) : backstitchref3_Rising.f k l = some (rise l) := by
  unfold backstitchref3_Rising.f
  have := rising_l0 l hl l.length 0 k [] (by omega) (by omega) (by simp) hk
  rw [show ((0 : Nat) : Int) = 0 from rfl] at this
  rw [this]
  rfl
theorem mem_rise {l : List Bool} {x : Int} : x ∈ rise l ↔ (0 ≤ x ∧ x < (l.length : Int)) ∧ l.getD x.toNat false = true := by
  unfold rise
  simp only [List.mem_map, List.mem_filter, List.mem_range]
  constructor
  · rintro ⟨i, ⟨h1, h2⟩, rfl⟩
    exact ⟨by omega, by simpa using h2⟩
  · rintro ⟨h1, h2⟩
    exact ⟨x.toNat, ⟨by omega, h2⟩, by omega⟩
theorem rise_length (l : List Bool) : (rise l).length ≤ l.length := by
  unfold rise
  rw [List.length_map]
  exact Nat.le_trans (List.length_filter_le _ _) (by simp)
theorem nn_of {a b : Bool} (h : ¬ (a = false ∧ b = true)) : (!a && b) = false := by cases a <;> cases b <;> simp_all
theorem nn_no {a b : Bool} (h : a = true ∨ b = false) : ¬ (a = false ∧ b = true) := by cases a <;> cases b <;> simp_all
theorem col_at (l : List Th) (k : Nat) : (col l).getD k 0 = (thAt l k).f1 := by
  unfold col thAt
  rw [List.getD_eq_getElem?_getD, List.getD_eq_getElem?_getD, List.getElem?_map]
  cases l[k]? <;> rfl
theorem end_mk (kind : Int) (mk : Bool) (l : List Th) (a b n : Int) : mk = true ∨ (doL kind mk l 7 a b n).mk = false := by
  cases mk with
  | true => exact .inl rfl
  | false => exact .inr rfl
/-- A row that is newer than all that is the marker's own. -/
theorem R_newer {α : Type} {d : Kd α} {e B N : Nat} {w0 W : World} {ok : Nat → Prop} {v : Value} {xs : List α} (h : d.R e W B (fun _ => True) v xs) (hN : ∀ k, ok k → k < N) (hB : N ≤ B) (h0 : w0.heap.size ≤ B) : d.R e W w0.heap.size (fun k => ¬ ok k) v xs :=
  Kd.R_lower (Kd.R_mono (Kd.R_bound h) (fun k hk ho => by have := hN k ho; have := hk.2.1; omega)) h0
end Go.Proofs.Ytnimidkeoocchaa.Mrk
