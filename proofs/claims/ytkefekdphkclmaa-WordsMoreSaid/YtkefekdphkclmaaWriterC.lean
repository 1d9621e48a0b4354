/- Package words' writer: a cell. -/
import Derived.Test.YtkefekdphkclmaaWriterW
set_option linter.unusedVariables false
set_option linter.unusedSimpArgs false
namespace Go.Proofs.Ytkefekdphkclmaa.Wrt
open Go.RowKit Go.Proofs.YtkefekdphkclmaaW.PrintWords Go.Proofs.YtkefekdphkclmaaW.PrintLast Go.Proofs.YtkefekdphkclmaaW.PrintMore Go.Proofs.Ytkefekdphkclmaa.PC Go.Proofs.Ytkefekdphkclmaa.Nb

abbrev ST := S110
abbrev SF := S30
def wt (s : List Int × Int) (t : ST) : List Int × Int := wn s [t.f0, t.f1]
def wf0 (s : List Int × Int) (f : SF) : List Int × Int := wn (wvs (wv (wn s [f.f0, f.f1, f.f2, f.f3]) f.f4) f.f5) [(f.f6.length : Int)]
def wf (s : List Int × Int) (f : SF) : List Int × Int := f.f6.foldl wt (wf0 s f)
def wc0 (s : List Int × Int) (a0 a1 : Int) (l2 : List SV) (n3 : Nat) : List Int × Int := wn (wvs (wn s [a0, a1]) l2) [(n3 : Int)]
def wc (s : List Int × Int) (a0 a1 : Int) (l2 : List SV) (l3 : List SF) : List Int × Int := l3.foldl wf (wc0 s a0 a1 l2 l3.length)
theorem fold_wt_length : ∀ (l : List ST) (s : List Int × Int), (l.foldl wt s).1.length = s.1.length + 2 * l.length
  | [], s => by simp
  | v :: l, s => by rw [List.foldl_cons, fold_wt_length l, wt, wn_length, List.length_cons]; simp; omega
theorem wf0_length (s : List Int × Int) (f : SF) : (wf0 s f).1.length = s.1.length + 7 + f.f5.length := by
  unfold wf0; rw [wn_length, wvs_length, wv_length, wn_length]; simp; omega
theorem fold_wf_length : ∀ (l : List SF) (s : List Int × Int), (∀ f ∈ l, f.f5.length ≤ 60 ∧ f.f6.length ≤ 20) → (l.foldl wf s).1.length ≤ s.1.length + 200 * l.length
  | [], s, _ => by simp
  | f :: l, s, h => by
    have h1 := fold_wf_length l (wf s f) (fun x hx => h x (List.mem_cons_of_mem _ hx))
    have h2 := h f List.mem_cons_self
    have h3 : (wf s f).1.length = s.1.length + 7 + f.f5.length + 2 * f.f6.length := by unfold wf; rw [fold_wt_length, wf0_length]
    rw [List.foldl_cons, List.length_cons]
    omega
theorem wc0_length (s : List Int × Int) (a0 a1 : Int) (l2 : List SV) (n : Nat) : (wc0 s a0 a1 l2 n).1.length = s.1.length + 4 + l2.length := by
  unfold wc0; rw [wn_length, wvs_length, wn_length]; simp; omega
theorem C_lit' (W : World) (n : Nat) (hn : n = W.heap.size) (xs : List Int) (h : xs.length ≤ 9223372036854775807) : Kd.C (Kd.int .i64) (W.alloc (.cells (nums .i64 xs).toArray 3)) (some ⟨n, 0, none⟩) xs.length xs := by
  subst hn; exact C_lit W xs h
theorem Wr.box {B : Nat} {W W2 : World} {g : Nat} {vt : Value} {out : List Int} {e : Int} {b : Nat} {t : TypeId} {cs : Array Value} (h : Wr B W g vt out e) (hb : W.heap[b]? = some (.cells cs t (0, 0))) (h1 : t ≠ 79) (h2 : 43 ≠ t) (k : Kept W W2 (wr_ g vt)) : W2.heap[b]? = some (.cells cs t (0, 0)) := by
  refine blk_kept hb k ?_
  rintro (h3 | h3)
  · subst h3; exact blk_ne hb h.1 h1 rfl
  · exact own_ne h.2.1 hb h2 h3
theorem moved_alloc {w : World} {o : Obj} {vt vt' : Value} (h : moved_ (w.alloc o) vt vt') : moved_ w vt vt' := by
  rcases h with h | ⟨b, h, hb⟩
  · exact .inl h
  · exact .inr ⟨b, h, by simp at hb; omega⟩
theorem kept_alloc {w W : World} {o : Obj} {S : Nat → Prop} (h : Kept (w.alloc o) W S) : Kept w W S := (Kept.alloc (Kept.refl w S) o).then_ h (fun _ h => .inl h)
set_option maxHeartbeats 8000000 in
set_option maxRecDepth 100000 in
theorem cell_calls (w0 w : World) (g : Nat) (vt : Value) (s : List Int × Int) (a0 a1 : Int) (A2 : Option Addr) (c2 : Nat) (l2 : List SV) (A3 : Option Addr) (c3 : Nat) (l3 : List SF)
    (hB0 : Below w0.heap.size w0 w) (hI : Wr w0.heap.size w g vt s.1 s.2) (hl2 : Kd.C k27 w0 A2 l2.length l2) (hl3 : Kd.C k30 w0 A3 l3.length l3)
    (hbd : s.1.length + l2.length ≤ 10000000) (hb3 : l3.length ≤ 30) (hbf : ∀ f ∈ l3, f.f5.length ≤ 60 ∧ f.f6.length ≤ 20) :
    Calls Try.prog 38 #[.pointer (some ⟨g, 0, none⟩), .agg #[.int .i64 a0, .int .i64 a1, .slice A2 l2.length c2, .slice A3 l3.length c3]] w fun r w' => r = .returned (.tuple #[]) ∧ ∃ vt', Wr w0.heap.size w' g vt' (wc s a0 a1 l2 l3).1 (wc s a0 a1 l2 l3).2 ∧ Below w0.heap.size w0 w' := by
  have HI := Aside0.mk hI
  have HD := Aside0.mk hbd
  have HL2 := Aside0.mk hl2
  have HL3 := Aside0.mk hl3
  have HB0 := Aside0.mk hB0
  have HN3 := Aside0.mk hb3
  have HNF := Aside0.mk hbf
  clear hI hl2 hl3 hbd hB0 hb3 hbf
  go_enter Try.func38, Try.ntmps38
  go_wp2_with fail
  refine (numbers_calls w0.heap.size _ g vt s.1 s.2 (some ⟨w.heap.size + 1, 0, none⟩) 2 [a0, a1] ((HI.out.alloc _).alloc _) (C_lit' _ _ (by simp) [a0, a1] (by simp)) ?far ?bd).mono ?_
  case far => rintro ad e _; injection e with e; subst e; exact HI.out.far _ (by simp)
  case bd => have := HD.out; simp; omega
  rintro r w1 ⟨rfl, vt1, hI1, hK1, hM1, hB1⟩
  have hbx : w1.heap[w.heap.size]? = some (.cells #[.int .i64 a0, .int .i64 a1, .slice A2 l2.length c2, .slice A3 l3.length c3] 25 (0, 0)) :=
    Wr.box ((HI.out.alloc _).alloc _) (blk_alloc (heap_alloc_new w _) _) (by decide) (by decide) hK1
  have HI1 := Aside0.mk (show Wr w0.heap.size w1 g vt1 (wn s [a0, a1]).1 (wn s [a0, a1]).2 from hI1)
  have HB1 := Aside0.mk (show Below w0.heap.size w0 w1 from (below_alloc (below_alloc HB0.out _) _).trans hB1)
  have HBX1 := Aside0.mk hbx
  have hc2 : w1.cell? ⟨w.heap.size, 2, none⟩ = some (.slice A2 l2.length c2) := (blk_cell hbx 2).trans rfl
  have hc3 : w1.cell? ⟨w.heap.size, 3, none⟩ = some (.slice A3 l3.length c3) := (blk_cell hbx 3).trans rfl
  clear hI1 hK1 hM1 hB1 hbx
  have HBC := Aside0.mk (show w.heap.size = w.heap.size from rfl)
  go_wp2_with fail
  refine (values_calls w0 _ g vt1 (wn s [a0, a1]) A2 c2 l2 HB1.out HI1.out HL2.out ?bd).mono ?_
  case bd => have := HD.out; rw [wn_length]; simp; omega
  rintro r w2 ⟨rfl, vt2, hI2, hK2, hM2, hB2⟩
  have hbx := Wr.box HI1.out HBX1.out (by decide) (by decide) hK2
  have HI2 := Aside0.mk hI2
  have HB2 := Aside0.mk hB2
  have HBX2 := Aside0.mk hbx
  clear hI2 hK2 hM2 hB2 hc2 hc3 HI1 HB1 HBX1
  have hc3 : w2.cell? ⟨w.heap.size, 3, none⟩ = some (.slice A3 l3.length c3) := (blk_cell hbx 3).trans rfl
  clear hbx
  go_wp2_with fail
  refine (numbers_calls w0.heap.size _ g vt2 _ _ (some ⟨w2.heap.size, 0, none⟩) 1 [(l3.length : Int)] (HI2.out.alloc _) (C_lit' _ _ rfl [(l3.length : Int)] (by simp)) ?far ?bd).mono ?_
  case far => rintro ad e _; injection e with e; subst e; exact HI2.out.far _ (Nat.le_refl _)
  case bd => have := HD.out; rw [wvs_length, wn_length]; simp; omega
  rintro r w3 ⟨rfl, vt3, hI3, hK3, hM3, hB3⟩
  have hbx := Wr.box (HI2.out.alloc _) (blk_alloc HBX2.out _) (by decide) (by decide) hK3
  have HI3 := Aside0.mk (show Wr w0.heap.size w3 g vt3 (wc0 s a0 a1 l2 l3.length).1 (wc0 s a0 a1 l2 l3.length).2 from hI3)
  have HB3 := Aside0.mk (show Below w0.heap.size w0 w3 from (below_alloc HB2.out _).trans hB3)
  have hc3' : w3.cell? ⟨w.heap.size, 3, none⟩ = some (.slice A3 l3.length c3) := (blk_cell hbx 3).trans rfl
  clear hI3 hK3 hM3 hB3 hc3 HI2 HB2 HBX2 hbx
  obtain ⟨s3, es3⟩ : ∃ s3, s3 = wc0 s a0 a1 l2 l3.length := ⟨_, rfl⟩
  rw [← es3] at HI3
  have HES := Aside0.mk es3
  have HLS := Aside0.mk (show s3.1.length ≤ 10000010 from by rw [es3, wc0_length]; have := HD.out; omega)
  clear es3
  go_wp2
  go_loopg [28] l3.length (fun kq v28 W => ∃ (i : Nat) (vt' : Value), v28 = .int .i64 (i : Int) ∧ Aside0 (i ≤ l3.length ∧ kq = l3.length - i) ∧ Aside0 (Wr w0.heap.size W g vt' ((l3.take i).foldl wf s3).1 ((l3.take i).foldl wf s3).2) ∧ Aside0 (Below w0.heap.size w0 W))
  case atStart => exact ⟨0, vt3, rfl, ⟨Nat.zero_le _, by omega⟩, ⟨by simpa using HI3.out⟩, HB3⟩
  case round =>
    obtain ⟨i, vt', rfl, HIQ, HR, HB⟩ := hrel
    by_cases hlt : i < l3.length
    · obtain ⟨ad, A6, c6, A7, c7, eA, hx0, hx1, hx2, hx3, hx4, hx5, hx6, hx7, k6, g6, k7, g7⟩ := at_T30 HL3.out (i : Int) (by omega) (by omega)
      subst eA
      have hx0' := (HB.out.cell (World.block_lt_of_cell? w0 _ hx0)).trans hx0
      have hx1' := (HB.out.cell (World.block_lt_of_cell? w0 _ hx1)).trans hx1
      have hx2' := (HB.out.cell (World.block_lt_of_cell? w0 _ hx2)).trans hx2
      have hx3' := (HB.out.cell (World.block_lt_of_cell? w0 _ hx3)).trans hx3
      have hx4' := (HB.out.cell (World.block_lt_of_cell? w0 _ hx4)).trans hx4
      have hx5' := (HB.out.cell (World.block_lt_of_cell? w0 _ hx5)).trans hx5
      have hx6' := (HB.out.cell (World.block_lt_of_cell? w0 _ hx6)).trans hx6
      have hx7' := (HB.out.cell (World.block_lt_of_cell? w0 _ hx7)).trans hx7
      have hp0 : (0 ≤ (i : Int)) = True := by simp
      have hp1 : ((i : Int) < (l3.length : Int)) = True := by simp; omega
      have hdec : decide ((i : Int) < (l3.length : Int)) = true := by simp; omega
      have hdec2 : decide (i < l3.length) = true := by simp; omega
      rw [Int.toNat_natCast] at hx0' hx1' hx2' hx3' hx4' hx5' hx6' hx7'
      have hsn : l3.take (i + 1) = l3.take i ++ [rd_T30 l3 (i : Int)] := by unfold rd_T30; rw [Int.toNat_natCast]; exact take_snoc l3 i hlt _
      have hmem : rd_T30 l3 (i : Int) ∈ l3 := by
        unfold rd_T30
        rw [Int.toNat_natCast, List.getD_eq_getElem?_getD, List.getElem?_eq_getElem hlt]
        exact List.getElem_mem hlt
      have HSN := Aside0.mk hsn
      have HF := Aside0.mk (HNF.out _ hmem)
      have HLT := Aside0.mk hlt
      have hln : ((l3.take i).foldl wf s3).1.length ≤ s3.1.length + 200 * i := by
        have h_ := fold_wf_length (l3.take i) s3 (fun f hf => HNF.out f (List.take_subset _ _ hf))
        rw [List.length_take] at h_
        have : min i l3.length = i := by omega
        rw [this] at h_
        exact h_
      have HLN := Aside0.mk (show ((l3.take i).foldl wf s3).1.length ≤ 10010000 from by have := HLS.out; have := HN3.out; omega)
      have G6 := Aside0.mk g6
      have G7 := Aside0.mk g7
      clear hx0 hx1 hx2 hx3 hx4 hx5 hx6 hx7 hlt hln hsn hmem g6 g7 k6 k7
      obtain ⟨f, hfe⟩ : ∃ f, f = rd_T30 l3 (i : Int) := ⟨_, rfl⟩
      rw [← hfe] at hx0' hx1' hx2' hx3' hx4' hx5' hx6' hx7' HSN HF G6 G7
      clear hfe
      obtain ⟨si, hsi⟩ : ∃ si, si = (l3.take i).foldl wf s3 := ⟨_, rfl⟩
      rw [← hsi] at HR HLN
      have HSI := Aside0.mk hsi
      clear hsi
      go_wp2_with fail
      refine (numbers_calls w0.heap.size _ g vt' si.1 si.2 (some ⟨wr.heap.size + 1, 0, none⟩) 4 [f.f0, f.f1, f.f2, f.f3] ((HR.out.alloc _).alloc _) (C_lit' _ _ (by simp) [f.f0, f.f1, f.f2, f.f3] (by simp)) ?far ?bd).mono ?_
      case far => rintro ad e _; injection e with e; subst e; exact HR.out.far _ (by simp)
      case bd => have := HLN.out; simp; omega
      rintro r u1 ⟨rfl, vt1, hI1, hK1, hM1, hB1⟩
      have hbx : u1.heap[wr.heap.size]? = some (.cells #[.int .i64 f.f0, .int .i64 f.f1, .int .i64 f.f2, .int .i64 f.f3, .int .i64 f.f4.f0, .int .i64 f.f4.f1, .slice A6 f.f5.length c6, .slice A7 f.f6.length c7] 30 (0, 0)) :=
        Wr.box ((HR.out.alloc _).alloc _) (blk_alloc (heap_alloc_new wr _) _) (by decide) (by decide) hK1
      have I1 := Aside0.mk (show Wr w0.heap.size u1 g vt1 (wn si [f.f0, f.f1, f.f2, f.f3]).1 (wn si [f.f0, f.f1, f.f2, f.f3]).2 from hI1)
      have B1 := Aside0.mk (show Below w0.heap.size w0 u1 from (below_alloc (below_alloc HB.out _) _).trans hB1)
      have X1 := Aside0.mk hbx
      have hc4 : u1.cell? ⟨wr.heap.size, 4, none⟩ = some (.int .i64 f.f4.f0) := (blk_cell hbx 4).trans rfl
      have hc5 : u1.cell? ⟨wr.heap.size, 5, none⟩ = some (.int .i64 f.f4.f1) := (blk_cell hbx 5).trans rfl
      clear hI1 hK1 hM1 hB1 hbx
      go_wp2_with fail
      refine (value_calls w0.heap.size _ g vt1 (wn si [f.f0, f.f1, f.f2, f.f3]) f.f4 I1.out ?bd).mono ?_
      case bd => have := HLN.out; rw [wn_length]; simp; omega
      rintro r u2 ⟨rfl, vt2, hI2, hK2, hM2, hB2⟩
      have hbx := Wr.box I1.out X1.out (by decide) (by decide) hK2
      have I2 := Aside0.mk hI2
      have B2 := Aside0.mk (B1.out.trans hB2)
      have X2 := Aside0.mk hbx
      have hc6 : u2.cell? ⟨wr.heap.size, 6, none⟩ = some (.slice A6 f.f5.length c6) := (blk_cell hbx 6).trans rfl
      clear hI2 hK2 hM2 hB2 hbx hc4 hc5 I1 B1 X1
      go_wp2_with fail
      refine (values_calls w0 _ g vt2 (wv (wn si [f.f0, f.f1, f.f2, f.f3]) f.f4) A6 c6 f.f5 B2.out I2.out G6.out ?bd).mono ?_
      case bd => have := HLN.out; have := HF.out.1; rw [wv_length, wn_length]; simp; omega
      rintro r u3 ⟨rfl, vt3, hI3, hK3, hM3, hB3⟩
      have hbx := Wr.box I2.out X2.out (by decide) (by decide) hK3
      have I3 := Aside0.mk hI3
      have B3 := Aside0.mk hB3
      have X3 := Aside0.mk hbx
      have hc7 : u3.cell? ⟨wr.heap.size, 7, none⟩ = some (.slice A7 f.f6.length c7) := (blk_cell hbx 7).trans rfl
      clear hI3 hK3 hM3 hB3 hbx hc6 I2 B2 X2
      go_wp2_with fail
      refine (numbers_calls w0.heap.size _ g vt3 _ _ (some ⟨u3.heap.size, 0, none⟩) 1 [(f.f6.length : Int)] (I3.out.alloc _) (C_lit' _ _ rfl [(f.f6.length : Int)] (by simp)) ?far ?bd).mono ?_
      case far => rintro ad e _; injection e with e; subst e; exact I3.out.far _ (Nat.le_refl _)
      case bd => have := HLN.out; have := HF.out.1; rw [wvs_length, wv_length, wn_length]; simp; omega
      rintro r u4 ⟨rfl, vt4, hI4, hK4, hM4, hB4⟩
      have hbx := Wr.box (I3.out.alloc _) (blk_alloc X3.out _) (by decide) (by decide) hK4
      have I4 := Aside0.mk (show Wr w0.heap.size u4 g vt4 (wf0 si f).1 (wf0 si f).2 from hI4)
      have B4 := Aside0.mk (show Below w0.heap.size w0 u4 from (below_alloc B3.out _).trans hB4)
      have hc7' : u4.cell? ⟨wr.heap.size, 7, none⟩ = some (.slice A7 f.f6.length c7) := (blk_cell hbx 7).trans rfl
      clear hI4 hK4 hM4 hB4 hbx hc7 I3 B3 X3
      obtain ⟨s4, es4⟩ : ∃ s4, s4 = wf0 si f := ⟨_, rfl⟩
      rw [← es4] at I4
      have E4 := Aside0.mk es4
      have L4 := Aside0.mk (show s4.1.length ≤ 10011000 from by rw [es4, wf0_length]; have := HLN.out; have := HF.out.1; omega)
      clear es4
      go_wp2
      go_loopg [60] f.f6.length (fun kq v60 W => ∃ (j : Nat) (vt' : Value), v60 = .int .i64 (j : Int) ∧ Aside0 (j ≤ f.f6.length ∧ kq = f.f6.length - j) ∧ Aside0 (Wr w0.heap.size W g vt' ((f.f6.take j).foldl wt s4).1 ((f.f6.take j).foldl wt s4).2) ∧ Aside0 (Below w0.heap.size w0 W))
      case atStart => exact ⟨0, vt4, rfl, ⟨Nat.zero_le _, by omega⟩, ⟨by simpa using I4.out⟩, B4⟩
      case round =>
        obtain ⟨j, vt5, rfl, JQ, JR, JB⟩ := hrel
        by_cases hlt : j < f.f6.length
        · obtain ⟨ad, eA, hy0, hy1⟩ := at_T110 G7.out (j : Int) (by omega) (by omega)
          subst eA
          have hy0' := (JB.out.cell (World.block_lt_of_cell? w0 _ hy0)).trans hy0
          have hy1' := (JB.out.cell (World.block_lt_of_cell? w0 _ hy1)).trans hy1
          have hp0 : (0 ≤ (j : Int)) = True := by simp
          have hp1 : ((j : Int) < (f.f6.length : Int)) = True := by simp; omega
          have hdec : decide ((j : Int) < (f.f6.length : Int)) = true := by simp; omega
          have hdec2 : decide (j < f.f6.length) = true := by simp; omega
          rw [Int.toNat_natCast] at hy0' hy1'
          have JSN := Aside0.mk (show f.f6.take (j + 1) = f.f6.take j ++ [rd_T110 f.f6 (j : Int)] from by unfold rd_T110; rw [Int.toNat_natCast]; exact take_snoc f.f6 j hlt _)
          have JLT := Aside0.mk hlt
          have JLN := Aside0.mk (show ((f.f6.take j).foldl wt s4).1.length ≤ 10012000 from by rw [fold_wt_length, List.length_take]; have := L4.out; have := HF.out.2; omega)
          clear hy0 hy1 hlt
          generalize rd_T110 f.f6 (j : Int) = t at hy0' hy1' JSN
          go_wp2_with fail
          refine (numbers_calls w0.heap.size _ g vt5 _ _ (some ⟨wr.heap.size + 1, 0, none⟩) 2 [t.f0, t.f1] ((JR.out.alloc _).alloc _) (C_lit' _ _ (by simp) [t.f0, t.f1] (by simp)) ?far ?bd).mono ?_
          case far => rintro ad e _; injection e with e; subst e; exact JR.out.far _ (by simp)
          case bd => have := JLN.out; simp; omega
          rintro r u6 ⟨rfl, vt6, hI6, hK6, hM6, hB6⟩
          have I6 := Aside0.mk (show Wr w0.heap.size u6 g vt6 (wt ((f.f6.take j).foldl wt s4) t).1 (wt ((f.f6.take j).foldl wt s4) t).2 from hI6)
          have B6 := Aside0.mk (show Below w0.heap.size w0 u6 from (below_alloc (below_alloc JB.out _) _).trans hB6)
          clear hI6 hK6 hM6 hB6
          go_wp2
          go_roundg (f.f6.length - (j + 1))
          case measure => have := JQ.out; have := JLT.out; omega
          case rel =>
            refine ⟨j + 1, vt6, by first | rfl | (have := JLT.out; rw [show wrap64 ((j : Int) + 1) = ((j + 1 : Nat) : Int) from by have h_ := HF.out.2; unfold wrap64; omega]), ⟨by have := JLT.out; omega, rfl⟩, ⟨?_⟩, B6⟩
            rw [JSN.out, fold_snoc]
            exact I6.out
        · have hdec : decide ((j : Int) < (f.f6.length : Int)) = false := by simp; omega
          have hdec2 : decide (j < f.f6.length) = false := by simp; omega
          have hj : j = f.f6.length := by have := JQ.out; omega
          subst hj
          rw [List.take_length] at JR
          clear hlt
          go_wp2
          go_roundg (l3.length - (i + 1))
          case measure => have := HIQ.out; have := HLT.out; omega
          case rel =>
            refine ⟨i + 1, vt5, by first | rfl | (have := HLT.out; rw [show wrap64 ((i : Int) + 1) = ((i + 1 : Nat) : Int) from by have h_ := HN3.out; unfold wrap64; omega]), ⟨by have := HLT.out; omega, rfl⟩, ⟨?_⟩, JB⟩
            rw [HSN.out, fold_snoc, ← HSI.out]
            unfold wf
            rw [← E4.out]
            exact JR.out
    · have hdec : decide ((i : Int) < (l3.length : Int)) = false := by simp; omega
      have hdec2 : decide (i < l3.length) = false := by simp; omega
      have HLT := Aside0.mk hlt
      clear hlt
      go_wp2
      go_end0
      have hi : i = l3.length := by have := HIQ.out; have := HLT.out; omega
      subst hi
      rw [List.take_length] at HR
      refine ⟨rfl, vt', ?_, HB.out⟩
      unfold wc
      rw [← HES.out]
      exact HR.out
end Go.Proofs.Ytkefekdphkclmaa.Wrt
