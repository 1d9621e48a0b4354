/- Small words for walks by hand: one element that lies in a block of its own. No program of its own. -/
import Derived.Test.YtoleplbmkdhgeaaWMore
import Derived.Laws.OwnMore
set_option linter.unusedVariables false
set_option linter.unusedSimpArgs false
namespace Go.Proofs.Ytoleplbmkdhgeaa.Hnd
open Go.RowKit Go.Proofs.YtoleplbmkdhgeaaW.PrintWords

theorem C_block {α : Type} {d : Kd α} {W : World} {g t : Nat} {cs : List Value} {x : α} (hb : W.heap[g]? = some (.cells cs.toArray t (0, 0))) (hk : d.K W x cs) : d.C W (some ⟨g, 0, none⟩) 1 [x] := by
  refine ⟨rfl, by omega, fun _ => ⟨_, rfl, fun j p hj => ?_⟩⟩
  rcases j with _ | j
  · simp only [List.getElem?_cons_zero, Option.some.injEq] at hj
    subst hj
    refine ⟨cs, d.K_len hk, hk, fun i u hu => ?_⟩
    rw [Nat.zero_mul, Nat.zero_add, add_plain]
    rw [blk_cell hb i]
    simpa using hu
  · simp at hj
theorem F_block {α : Type} {d : Kd α} {W : World} {g t : Nat} {cs : List Value} {x : α} {ok : Nat → Prop} (hb : W.heap[g]? = some (.cells cs.toArray t (0, 0))) (hk : Kd.FK d W ok x cs) : Kd.F d W (fun k => k = g ∨ ok k) (some ⟨g, 0, none⟩) 1 [x] :=
  fun W' hW => C_block ((hW g (.inl rfl) (blk_lt hb)).trans hb) (hk W' (fun k hk hlt => hW k (.inr hk) hlt))
theorem blk_deeper {w w1 : World} {B g : Nat} {o : Obj} (h : w.heap[g]? = some o) (hb : Below B w w1) (hg : g < B) : w1.heap[g]? = some o := (hb.block g hg).trans h
theorem cell_deeper {w w1 : World} {B : Nat} {a : Addr} {v : Value} (h : w.cell? a = some v) (hb : Below B w w1) (hg : a.block < B) : w1.cell? a = some v := (hb.cell hg).trans h
theorem below_cut {B C : Nat} {w w1 : World} (h : Below C w w1) (hB : B ≤ C) : Below B w w1 := ⟨h.os, h.tape, h.output, h.size, fun i hi => h.block i (Nat.lt_of_lt_of_le hi hB)⟩
/-- A row of nothing that has a place. -/
theorem N_empty {α : Type} (d : Kd α) (e : Nat) (W : World) (base : Nat) (ok : Nat → Prop) (h1 : base ≤ W.heap.size) (hok : ok W.heap.size) : Kd.N d e (W.alloc (.cells #[] e)) base ok (.slice (some ⟨W.heap.size, 0, none⟩) 0 0) [] :=
  Kd.R_N ⟨fun k hk => by simp only [Value.ownBlock, Option.some.injEq] at hk; subst hk; exact hok, [], ⟨by simp, .inr ⟨W.heap.size, 0, #[], rfl, h1, heap_alloc_new W _, Nat.le_refl _, by unfold maxLen; omega, by simp, by simp⟩⟩, Reps.none _ _⟩
theorem blk_size {w : World} {o : Obj} : (w.alloc o).heap.size = w.heap.size + 1 := by simp
/-! Rows of bools of the call's own, written place by place. -/
theorem own_setB {W : World} {B e g n c : Nat} {s : List Bool} (h : W.ownsRow B e 1 (.slice (some ⟨g, 0, none⟩) n c) n (bools s)) (i : Nat) (b : Bool) : (W.setCell ⟨g, i, none⟩ (.bool b)).ownsRow B e 1 (.slice (some ⟨g, 0, none⟩) n c) n (bools (s.set i b)) := by
  simpa [bools, List.map_set] using (World.ownsRow.stored h i (.bool b)).1
theorem own_len1 {W : World} {B e n : Nat} {v : Value} {xs : List Value} (h : W.ownsRow B e 1 v n xs) : xs.length = n := by have := h.1; omega
theorem own_getB {W : World} {B e g n c : Nat} {s : List Bool} (h : W.ownsRow B e 1 (.slice (some ⟨g, 0, none⟩) n c) n (bools s)) (i : Nat) (hi : i < n) : W.cell? ⟨g, i, none⟩ = some (.bool (s.getD i false)) := by
  have hl : s.length = n := by have := own_len1 h; simpa [bools] using this
  have h_ := h.cells (g := g) rfl i (.bool (s.getD i false)) (by unfold bools; rw [List.getElem?_map, List.getElem?_eq_getElem (by omega)]; simp [List.getD_eq_getElem?_getD, List.getElem?_eq_getElem (show i < s.length by omega)])
  rwa [add_plain] at h_
theorem own_free {W : World} {B e g n c sz : Nat} {xs : List Value} (h : W.ownsRow B e sz (.slice (some ⟨g, 0, none⟩) n c) n xs) (i : Nat) : W.frozen? ⟨g, i, none⟩ = false := by
  rcases h.2 with ⟨h_, _⟩ | ⟨g', cap, cur, he, _, hh, _⟩
  · simp at h_
  · simp only [Value.slice.injEq, Option.some.injEq, Addr.mk.injEq, and_true, true_and] at he
    obtain ⟨rfl, rfl⟩ := he
    exact blk_frozen hh _
theorem own_CB {W : World} {B e g n c : Nat} {s : List Bool} (h : W.ownsRow B e 1 (.slice (some ⟨g, 0, none⟩) n c) n (bools s)) : Kd.bool.C W (some ⟨g, 0, none⟩) s.length s := by
  have hl : s.length = n := by have := own_len1 h; simpa [bools] using this
  subst hl
  exact (Kd.R_reads' (Kd.R_of_own (enc := Value.bool) (h1 := fun _ => rfl) (ok := fun _ => True) (xs := s) h (fun _ _ => trivial))).2.2
end Go.Proofs.Ytoleplbmkdhgeaa.Hnd
