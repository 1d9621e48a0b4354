/- Package words' writer: a value, and values. -/
import Derived.Test.YtkefekdphkclmaaWriter
import Derived.Test.YtkefekdphkclmaaNbBox
set_option linter.unusedVariables false
set_option linter.unusedSimpArgs false
namespace Go.Proofs.Ytkefekdphkclmaa.Wrt
open Go.RowKit Go.Proofs.YtkefekdphkclmaaW.PrintWords Go.Proofs.YtkefekdphkclmaaW.PrintLast Go.Proofs.YtkefekdphkclmaaW.PrintMore Go.Proofs.Ytkefekdphkclmaa.PC Go.Proofs.Ytkefekdphkclmaa.Nb

abbrev SV := S27
/-- A value is written. -/
def wv (s : List Int × Int) (v : SV) : List Int × Int := (s.1 ++ [(bx v.f0 v.f1).1], if s.2 = 0 then (bx v.f0 v.f1).2 else s.2)
theorem wv_length (s : List Int × Int) (v : SV) : (wv s v).1.length = s.1.length + 1 := by simp [wv]
theorem Wr.below {B : Nat} {w w1 : World} {g : Nat} {vt : Value} {out : List Int} {e : Int} (h : Wr B w g vt out e) (hb : Below w.heap.size w w1) : Wr B w1 g vt out e :=
  ⟨blk_below h.1 hb, own_move h.2.1 (fun k hk => hb.block k (own_lt h.2.1 k hk)), h.2.2⟩
set_option maxHeartbeats 4000000 in
set_option maxRecDepth 100000 in
theorem value_calls (B : Nat) (w : World) (g : Nat) (vt : Value) (s : List Int × Int) (v : SV) (hI : Wr B w g vt s.1 s.2) (hbd : s.1.length ≤ 1000000000) :
    Calls Try.prog 57 #[.pointer (some ⟨g, 0, none⟩), .agg #[.int .i64 v.f0, .int .i64 v.f1]] w fun r w' => r = .returned (.tuple #[]) ∧ ∃ vt', Wr B w' g vt' (wv s v).1 (wv s v).2 ∧ Kept w w' (wr_ g vt) ∧ moved_ w vt vt' ∧ Below B w w' := by
  have HI := Aside0.mk hI
  have HD := Aside0.mk hbd
  have HU := Try.underlying32
  have HX := Aside0.mk (box_f 2 v.f0 v.f1 (Nat.le_refl _))
  have hBw : B ≤ w.heap.size := by have h1 := hI.2.2; have h2 := blk_lt hI.1; omega
  have HBW := Aside0.mk hBw
  clear hI hbd hBw
  go_enter Try.func57, Try.ntmps57
  obtain ⟨r, hr⟩ : ∃ r, r = bx v.f0 v.f1 := ⟨_, rfl⟩
  have HRX := Aside0.mk hr
  rw [← hr] at HX
  clear hr
  obtain ⟨r1, r2⟩ := r
  by_cases he : s.2 = 0
  · have HE := Aside0.mk he
    have hd1 : decide (s.2 = 0) = true := decide_eq_true he
    have hd2 : (s.2 == 0) = true := by simpa using he
    clear he
    go_wp2_with (first | (go_at_call 63; (with_reducible refine (nanbox_Box.calls 2 v.f0 v.f1 r1 r2 _ HX.out).mono ?_); rintro e0 w1 ⟨rfl, hb1⟩; have HB1 := Aside0.mk (below_step (below_alloc (Below.refl w.heap.size w) _) hb1); have HI1 := Aside0.mk (Wr.below HI.out HB1.out); obtain ⟨hg, ht, hBg⟩ := HI1.out; have hc0 : w1.cell? ⟨g, 0, none⟩ = some vt := (blk_cell hg 0).trans rfl; have hc1 : w1.cell? ⟨g, 1, none⟩ = some (.int .i64 s.2) := (blk_cell hg 1).trans rfl; have hf1 : w1.frozen? ⟨g, 1, none⟩ = false := blk_frozen hg 1; have HNE := Aside0.mk (own_ne ht hg (by decide)); have HG := Aside0.mk hg; have HT := Aside0.mk ht; have HBG := Aside0.mk hBg; have HG1 := Aside0.mk (show (w1.setCell ⟨g, 1, none⟩ (.int .i64 r2)).heap[g]? = some (.cells #[vt, .int .i64 r2] 79 (0, 0)) from by have h_ := blk_set hg 1 (.int .i64 r2); simpa using h_); have HT1 := Aside0.mk (own_setCell ht (p := ⟨g, 1, none⟩) HNE.out (.int .i64 r2)); have HBB := Aside0.mk ((HB1.out.mono HBW.out).setCell (p := ⟨g, 1, none⟩) hBg (.int .i64 r2)); have HK1 := Aside0.mk (Kept.setCell (Kept.of_below HB1.out (wr_ g vt)) (p := ⟨g, 1, none⟩) (.inl (.inl rfl)) (.int .i64 r2)); have HSZ := Aside0.mk (show w.heap.size ≤ (w1.setCell ⟨g, 1, none⟩ (.int .i64 r2)).heap.size from by simp [World.setCell]; exact HB1.out.size); clear hb1 hg ht hBg) | ((with_reducible refine gate_builtin (b := .append) (xs := #[.tmp 24, .tmp 26]) rfl ?_); refine print_append_num (w0 := w) B rfl (.tmp 24) (.tmp 26) 32 43 .u64 8 rfl HU infoU (by decide) vt s.1 r1 rfl ?hx HT1.out HBB.out ?hbase ?hl ?_; (case hx => first | rfl | (simp [World.setCell]; rfl) | (simp [World.setCell]; done)); (case hbase => have h_ := HBG.out; have h2_ := blk_lt HG1.out; omega); (case hl => have h2_ := HD.out; omega); intro v1 w2 ho hb hg2 hat; obtain ⟨A1, c1, e1⟩ := own_slice ho; subst e1; have HO := Aside0.mk ho; have HB2 := Aside0.mk hb; have HGR := Aside0.mk hg2; have HAT := Aside0.mk hat; have HG2 := Aside0.mk (blk_grown HG1.out hg2 HNE.out); have hd3 : w2.cell? ⟨g, 0, none⟩ = some vt := (blk_cell HG2.out 0).trans rfl; have hd4 : w2.frozen? ⟨g, 0, none⟩ = false := blk_frozen HG2.out 0; clear ho hb hg2 hat))
    go_end0
    refine ⟨rfl, .slice A1 (s.1 ++ [r1]).length c1, ⟨?_, ?_, HBG.out⟩, ?_, ?_, HB2.out.setCell HBG.out _⟩
    · have h_ := blk_set HG2.out 0 (.slice A1 (s.1 ++ [r1]).length c1)
      simpa [wv, ← HRX.out, HE.out] using h_
    · have h_ := own_setCell HO.out (p := ⟨g, 0, none⟩) (own_ne HO.out HG2.out (by decide)) (.slice A1 (s.1 ++ [r1]).length c1)
      simpa [wv, ← HRX.out, HE.out] using h_
    · exact Kept.setCell (Kept.of_grown HGR.out HK1.out (fun k hk => .inl (.inr hk.symm))) (.inl (.inl rfl)) _
    · have hsz := HB1.out.size
      rcases HAT.out with ha | ⟨b, ha, hb⟩
      · exact .inl ha
      · exact .inr ⟨b, ha, by have h_ := HSZ.out; omega⟩
  · have HE := Aside0.mk he
    have hd1 : decide (s.2 = 0) = false := decide_eq_false he
    have hd2 : (s.2 == 0) = false := by simpa using he
    clear he
    go_wp2_with (first | (go_at_call 63; (with_reducible refine (nanbox_Box.calls 2 v.f0 v.f1 r1 r2 _ HX.out).mono ?_); rintro e0 w1 ⟨rfl, hb1⟩; have HB1 := Aside0.mk (below_step (below_alloc (Below.refl w.heap.size w) _) hb1); have HI1 := Aside0.mk (Wr.below HI.out HB1.out); obtain ⟨hg, ht, hBg⟩ := HI1.out; have hc0 : w1.cell? ⟨g, 0, none⟩ = some vt := (blk_cell hg 0).trans rfl; have hc1 : w1.cell? ⟨g, 1, none⟩ = some (.int .i64 s.2) := (blk_cell hg 1).trans rfl; have hf1 : w1.frozen? ⟨g, 1, none⟩ = false := blk_frozen hg 1; have HNE := Aside0.mk (own_ne ht hg (by decide)); have HG := Aside0.mk hg; have HT := Aside0.mk ht; have HBG := Aside0.mk hBg; have HG1 := Aside0.mk hg; have HT1 := Aside0.mk ht; have HBB := Aside0.mk (HB1.out.mono HBW.out); have HK1 := Aside0.mk (Kept.of_below HB1.out (wr_ g vt)); have HSZ := Aside0.mk HB1.out.size; clear hb1 hg ht hBg) | ((with_reducible refine gate_builtin (b := .append) (xs := #[.tmp 24, .tmp 26]) rfl ?_); refine print_append_num (w0 := w) B rfl (.tmp 24) (.tmp 26) 32 43 .u64 8 rfl HU infoU (by decide) vt s.1 r1 rfl ?hx HT1.out HBB.out ?hbase ?hl ?_; (case hx => rfl); (case hbase => have h_ := HBG.out; have h2_ := blk_lt HG1.out; omega); (case hl => have h2_ := HD.out; omega); intro v1 w2 ho hb hg2 hat; obtain ⟨A1, c1, e1⟩ := own_slice ho; subst e1; have HO := Aside0.mk ho; have HB2 := Aside0.mk hb; have HGR := Aside0.mk hg2; have HAT := Aside0.mk hat; have HG2 := Aside0.mk (blk_grown HG1.out hg2 HNE.out); have hd3 : w2.cell? ⟨g, 0, none⟩ = some vt := (blk_cell HG2.out 0).trans rfl; have hd4 : w2.frozen? ⟨g, 0, none⟩ = false := blk_frozen HG2.out 0; clear ho hb hg2 hat))
    go_end0
    refine ⟨rfl, .slice A1 (s.1 ++ [r1]).length c1, ⟨?_, ?_, HBG.out⟩, ?_, ?_, HB2.out.setCell HBG.out _⟩
    · have h_ := blk_set HG2.out 0 (.slice A1 (s.1 ++ [r1]).length c1)
      simpa [wv, ← HRX.out, HE.out] using h_
    · have h_ := own_setCell HO.out (p := ⟨g, 0, none⟩) (own_ne HO.out HG2.out (by decide)) (.slice A1 (s.1 ++ [r1]).length c1)
      simpa [wv, ← HRX.out, HE.out] using h_
    · exact Kept.setCell (Kept.of_grown HGR.out HK1.out (fun k hk => .inl (.inr hk.symm))) (.inl (.inl rfl)) _
    · have hsz := HB1.out.size
      rcases HAT.out with ha | ⟨b, ha, hb⟩
      · exact .inl ha
      · exact .inr ⟨b, ha, by have h_ := HSZ.out; omega⟩
end Go.Proofs.Ytkefekdphkclmaa.Wrt
