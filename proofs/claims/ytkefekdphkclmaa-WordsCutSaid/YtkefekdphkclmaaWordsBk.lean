/- Package words' Back: what it answers. -/
import Derived.Test.YtkefekdphkclmaaPC7
import Derived.RegionTactic
import Derived.ChangeAlike
set_option linter.unusedVariables false
set_option linter.unusedSimpArgs false
namespace Go.Proofs.Ytkefekdphkclmaa.Wrb
open Go.RowKit Go.Proofs.YtkefekdphkclmaaW.PrintWords Go.Proofs.YtkefekdphkclmaaW.PrintLast Go.Proofs.YtkefekdphkclmaaW.PrintMore Go.Proofs.Ytkefekdphkclmaa.PC

abbrev SV := S27
abbrev SF := S30
abbrev CellR := Int × Int × List SV × List SF × Int × Int
/-- What Back answers, out of what the reader's cell tells. -/
def backR (r : Int × Int × List SV × List SF × Int × Bool) : CellR := if r.2.2.2.2.2 = true then (0, 0, [], [], 0, 3) else (r.1, r.2.1, r.2.2.1, r.2.2.2.1, r.2.2.2.2.1, 0)
theorem put4 {W : World} {g : Nat} {t : TypeId} {a b c d p q r s : Value} (h : W.heap[g]? = some (.cells #[a, b, c, d] t (0, 0))) :
    ((((W.setCell ⟨g, 0, none⟩ p).setCell ⟨g, 1, none⟩ q).setCell ⟨g, 2, none⟩ r).setCell ⟨g, 3, none⟩ s).heap[g]? = some (.cells #[p, q, r, s] t (0, 0)) :=
  blk_put (cs := #[p, q, r, d]) (blk_put (cs := #[p, q, c, d]) (blk_put (cs := #[p, b, c, d]) (blk_put (cs := #[a, b, c, d]) h 0 _ rfl) 1 _ rfl) 2 _ rfl) 3 _ rfl
theorem B_put4 {w W : World} {p q r s : Value} (h : Below w.heap.size w W) : Below w.heap.size w ((((W.setCell ⟨w.heap.size, 0, none⟩ p).setCell ⟨w.heap.size, 1, none⟩ q).setCell ⟨w.heap.size, 2, none⟩ r).setCell ⟨w.heap.size, 3, none⟩ s) :=
  Below.setCell (Below.setCell (Below.setCell (Below.setCell h (Nat.le_refl _) p) (Nat.le_refl _) q) (Nat.le_refl _) r) (Nat.le_refl _) s
theorem R_put4 {α : Type} {d : Kd α} {e base : Nat} {ok : Nat → Prop} {v : Value} {xs : List α} {W : World} {g t : Nat} {a b c d' p q r s : Value} (h : d.R e W base ok v xs) (hb : W.heap[g]? = some (.cells #[a, b, c, d'] t (0, 0))) (ht : ∀ q, q ∈ e :: d.E → q ≠ t) :
    d.R e ((((W.setCell ⟨g, 0, none⟩ p).setCell ⟨g, 1, none⟩ q).setCell ⟨g, 2, none⟩ r).setCell ⟨g, 3, none⟩ s) base ok v xs :=
  Kd.R_set (Kd.R_set (Kd.R_set (Kd.R_set h hb ht 0 p) (blk_set hb 0 p) ht 1 q) (blk_set (blk_set hb 0 p) 1 q) ht 2 r) (blk_set (blk_set (blk_set hb 0 p) 1 q) 2 r) ht 3 s
theorem S_put4 {α : Type} {d : Kd α} {e base : Nat} {ok : Nat → Prop} {v : Value} {xs : List α} {W : World} {g t : Nat} {a b c d' p q r s : Value} (h : Kd.S d e W base ok v xs) (hb : W.heap[g]? = some (.cells #[a, b, c, d'] t (0, 0))) (ht : ∀ q, q ∈ e :: d.E → q ≠ t) :
    Kd.S d e ((((W.setCell ⟨g, 0, none⟩ p).setCell ⟨g, 1, none⟩ q).setCell ⟨g, 2, none⟩ r).setCell ⟨g, 3, none⟩ s) base ok v xs :=
  Kd.S_set (Kd.S_set (Kd.S_set (Kd.S_set h hb ht 0 p) (blk_set hb 0 p) ht 1 q) (blk_set (blk_set hb 0 p) 1 q) ht 2 r) (blk_set (blk_set (blk_set hb 0 p) 1 q) 2 r) ht 3 s
set_option maxHeartbeats 8000000 in
set_option maxRecDepth 100000 in
theorem back_calls (k : Nat) (A0 : Option Addr) (c0 : Nat) (l0 : List Int) (w : World) (hr0 : Kd.C (Kd.int .u64) w A0 l0.length l0) (hc0 : l0.length ≤ c0)
    (r1 r2 : Int) (r3 : List SV) (r4 : List SF) (r5 : Int) (r6 : Bool) (h : words_reader_cell.f k l0 0 false = some (r1, r2, r3, r4, r5, r6)) :
    Calls Try.prog 17 #[.slice A0 l0.length c0] w fun e w' => ∃ v3 v4 : Value, e = .returned (.tuple #[.agg #[.int .i64 (backR (r1, r2, r3, r4, r5, r6)).1, .int .i64 (backR (r1, r2, r3, r4, r5, r6)).2.1, v3, v4], .int .i64 (backR (r1, r2, r3, r4, r5, r6)).2.2.2.2.1, .int .i64 (backR (r1, r2, r3, r4, r5, r6)).2.2.2.2.2]) ∧
      Kd.R k27 27 w' w.heap.size (fun _ => True) v3 (backR (r1, r2, r3, r4, r5, r6)).2.2.1 ∧ Kd.S k30 30 w' w.heap.size (fun k_ => some k_ ≠ (v3 : Value).ownBlock) v4 (backR (r1, r2, r3, r4, r5, r6)).2.2.2.1 ∧ Below w.heap.size w w' := by
  have HR0 := Aside0.mk hr0
  have HH := Aside0.mk h
  clear hr0 hc0 h
  go_enter Try.func17, Try.ntmps17
  go_wp2_with fail
  have hB0 : Below w.heap.size w (w.alloc (Obj.cells #[.int .i64 0, .int .i64 0, .slice none 0 0, .slice none 0 0] 25)) := below_alloc (Below.refl _ _) _
  have hI0 := IsS83.new w _ A0 c0 l0 0 false hB0 HR0.out
  have hz : (w.alloc (Obj.cells #[.int .i64 0, .int .i64 0, .slice none 0 0, .slice none 0 0] 25)).heap.size = w.heap.size + 1 := by simp
  rw [hz] at hI0
  refine (words_reader_cell.calls k (w.heap.size + 1) l0 0 false r1 r2 r3 r4 r5 r6 w _ hI0 (below_alloc hB0 _) HH.out).mono ?_
  rintro e w1 ⟨v3, v4, rfl, ho3, ho4, hI1, hB1, hK1⟩
  obtain ⟨A3, c3, e3⟩ := Kd.R_slice ho3
  subst e3
  obtain ⟨A4, c4, e4⟩ := Kd.S_slice ho4
  subst e4
  have hbx : w1.heap[w.heap.size]? = some (.cells #[.int .i64 0, .int .i64 0, .slice none 0 0, .slice none 0 0] 25 (0, 0)) := hK1.blk (blk_alloc (heap_alloc_new w _) _) (by omega) (by simp)
  have HBX := Aside0.mk hbx
  have O3 := Aside0.mk (Kd.R_lower ho3 (base' := w.heap.size) (by simp; omega))
  have O4 := Aside0.mk (Kd.S_lower ho4 (base' := w.heap.size) (by simp; omega))
  have B1 := Aside0.mk hB1
  obtain ⟨A5, c5, hg, hge, hC⟩ := hI1
  have hd1 : w1.cell? ⟨w.heap.size + 1, 1, none⟩ = some (.int .i64 r5) := (blk_cell hg 1).trans rfl
  have hd2 : w1.cell? ⟨w.heap.size + 1, 2, none⟩ = some (.bool r6) := (blk_cell hg 2).trans rfl
  have he0 : w1.cell? ⟨w.heap.size, 0, none⟩ = some (.int .i64 0) := (blk_cell hbx 0).trans rfl
  have he1 : w1.cell? ⟨w.heap.size, 1, none⟩ = some (.int .i64 0) := (blk_cell hbx 1).trans rfl
  have he2 : w1.cell? ⟨w.heap.size, 2, none⟩ = some (.slice none 0 0) := (blk_cell hbx 2).trans rfl
  have he3 : w1.cell? ⟨w.heap.size, 3, none⟩ = some (.slice none 0 0) := (blk_cell hbx 3).trans rfl
  have hf0 : w1.frozen? ⟨w.heap.size, 0, none⟩ = false := blk_frozen hbx 0
  have hf1 : w1.frozen? ⟨w.heap.size, 1, none⟩ = false := blk_frozen hbx 1
  have hf2 : w1.frozen? ⟨w.heap.size, 2, none⟩ = false := blk_frozen hbx 2
  have hf3 : w1.frozen? ⟨w.heap.size, 3, none⟩ = false := blk_frozen hbx 3
  have hs0 : w.heap.size < w1.heap.size := blk_lt hbx
  have hs1 : w.heap.size + 1 < w1.heap.size := blk_lt hg
  clear ho3 ho4 hB1 hK1 hI0 hB0 hbx hg hge hC hz
  cases r6 with
  | true =>
    go_wp2
    (try simp only [Exit.inBlock, Exit.then])
    refine bodyPost_ret (results_ctt rfl _ _ w.heap.size 25 #[.int .i64 0, .int .i64 0, .slice none 0 0, .slice none 0 0] (0, 0) _ rfl (blk_alloc (put4 HBX.out) _) Try.underlying25 rfl (by kernel_rfl)) rfl ?_
    refine ⟨_, _, rfl, Kd.R_nil _ _ _ _ _, Kd.S_nil _ _ _ _ _, ?_⟩
    first | exact below_alloc (B_put4 B1.out) _ | exact below_drew1 (below_alloc (B_put4 B1.out) _)
  | false =>
    go_wp2
    go_region
    go_wp2
    (try simp only [Exit.inBlock, Exit.then])
    refine bodyPost_ret (results_ctt rfl _ _ w.heap.size 25 #[.int .i64 r1, .int .i64 r2, .slice A3 r3.length c3, .slice A4 r4.length c4] (0, 0) _ rfl (blk_alloc (put4 HBX.out) _) Try.underlying25 rfl (by kernel_rfl)) rfl ?_
    refine ⟨_, _, rfl, ?_, ?_, ?_⟩
    · exact Kd.R_alloc (R_put4 O3.out HBX.out (by decide)) _
    · exact Kd.S_alloc (S_put4 O4.out HBX.out (by decide)) _
    · first | exact below_alloc (B_put4 B1.out) _ | exact below_drew1 (below_alloc (B_put4 B1.out) _)
end Go.Proofs.Ytkefekdphkclmaa.Wrb
