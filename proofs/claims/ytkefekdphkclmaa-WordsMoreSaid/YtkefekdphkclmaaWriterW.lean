/- Package words' writer: values, a cell, and Of. -/
import Derived.Test.YtkefekdphkclmaaWriterV
set_option linter.unusedVariables false
set_option linter.unusedSimpArgs false
namespace Go.Proofs.Ytkefekdphkclmaa.Wrt
open Go.RowKit Go.Proofs.YtkefekdphkclmaaW.PrintWords Go.Proofs.YtkefekdphkclmaaW.PrintLast Go.Proofs.YtkefekdphkclmaaW.PrintMore Go.Proofs.Ytkefekdphkclmaa.PC Go.Proofs.Ytkefekdphkclmaa.Nb

def wn (s : List Int × Int) (l : List Int) : List Int × Int := (s.1 ++ l.map u64, s.2)
def wvs (s : List Int × Int) (l : List SV) : List Int × Int := l.foldl wv (wn s [(l.length : Int)])
theorem wn_length (s : List Int × Int) (l : List Int) : (wn s l).1.length = s.1.length + l.length := by simp [wn]
theorem fold_wv_length : ∀ (l : List SV) (s : List Int × Int), (l.foldl wv s).1.length = s.1.length + l.length
  | [], s => by simp
  | v :: l, s => by rw [List.foldl_cons, fold_wv_length l, wv_length, List.length_cons]; omega
theorem wvs_length (s : List Int × Int) (l : List SV) : (wvs s l).1.length = s.1.length + 1 + l.length := by unfold wvs; rw [fold_wv_length, wn_length]; rfl
theorem C_lit (W : World) (xs : List Int) (h : xs.length ≤ 9223372036854775807) : Kd.C (Kd.int .i64) (W.alloc (.cells (nums .i64 xs).toArray 3)) (some ⟨W.heap.size, 0, none⟩) xs.length xs := by
  have ho := own_lit W W.heap.size 3 .i64 xs (Nat.le_refl _) h
  exact (Kd.R_reads' (Kd.R_of_own (enc := Value.int .i64) (h1 := fun _ => rfl) (ok := fun _ => True) ho (fun _ _ => trivial))).2.2
theorem moved_.trans {w W : World} {vt vt' vt'' : Value} (h : moved_ w vt vt') (h' : moved_ W vt' vt'') (hs : w.heap.size ≤ W.heap.size) : moved_ w vt vt'' := by
  rcases h' with h' | ⟨b, h', hb⟩
  · rcases h with h | ⟨b, h, hb⟩
    · exact .inl (h'.trans h)
    · exact .inr ⟨b, h'.trans h, hb⟩
  · exact .inr ⟨b, h', by omega⟩
theorem kept_then {w W W2 : World} {g : Nat} {vt vt' : Value} (h : Kept w W (wr_ g vt)) (hm : moved_ w vt vt') (k : Kept W W2 (wr_ g vt')) : Kept w W2 (wr_ g vt) := by
  refine h.then_ k (fun q hq => ?_)
  rcases hq with hq | hq
  · exact .inl (.inl hq)
  · rcases hm with hm | ⟨b, hm, hb⟩
    · exact .inl (.inr (by rw [hq, hm]))
    · rw [hm] at hq; injection hq with hq; subst hq; exact .inr hb
theorem Wr.alloc {B : Nat} {w : World} {g : Nat} {vt : Value} {out : List Int} {e : Int} (h : Wr B w g vt out e) (o : Obj) : Wr B (w.alloc o) g vt out e :=
  ⟨blk_alloc h.1 o, own_alloc h.2.1 o, h.2.2⟩
theorem Wr.far {B : Nat} {w : World} {g : Nat} {vt : Value} {out : List Int} {e : Int} (h : Wr B w g vt out e) (k : Nat) (hk : w.heap.size ≤ k) : ¬ wr_ g vt k := by
  rintro (h1 | h1)
  · have := blk_lt h.1; omega
  · have := own_lt h.2.1 k h1.symm; omega
theorem fold_snoc {α β : Type} (f : β → α → β) (b : β) (l : List α) (x : α) : (l ++ [x]).foldl f b = f (l.foldl f b) x := by simp
theorem take_snoc {α : Type} (l : List α) (i : Nat) (h : i < l.length) (d : α) : l.take (i + 1) = l.take i ++ [l.getD i d] := by rw [List.take_succ_eq_append_getElem h]; simp [List.getD_eq_getElem?_getD, h]
set_option maxHeartbeats 4000000 in
set_option maxRecDepth 100000 in
theorem values_calls (w0 w : World) (g : Nat) (vt : Value) (s : List Int × Int) (A : Option Addr) (c : Nat) (l : List SV)
    (hB0 : Below w0.heap.size w0 w) (hI : Wr w0.heap.size w g vt s.1 s.2) (hl : Kd.C k27 w0 A l.length l) (hbd : s.1.length + l.length ≤ 500000000) :
    Calls Try.prog 56 #[.pointer (some ⟨g, 0, none⟩), .slice A l.length c] w fun r w' => r = .returned (.tuple #[]) ∧ ∃ vt', Wr w0.heap.size w' g vt' (wvs s l).1 (wvs s l).2 ∧ Kept w w' (wr_ g vt) ∧ moved_ w vt vt' ∧ Below w0.heap.size w0 w' := by
  have HI := Aside0.mk hI
  have HD := Aside0.mk hbd
  have HL := Aside0.mk hl
  have HB0 := Aside0.mk hB0
  clear hI hl hbd hB0
  go_enter Try.func56, Try.ntmps56
  go_wp2_with fail
  refine (numbers_calls w0.heap.size _ g vt s.1 s.2 (some ⟨w.heap.size, 0, none⟩) 1 [(l.length : Int)] (HI.out.alloc _) (C_lit w [(l.length : Int)] (by simp)) ?far ?bd).mono ?_
  case far => rintro ad e _; injection e with e; subst e; exact HI.out.far _ (Nat.le_refl _)
  case bd => have := HD.out; simp; omega
  rintro r w1 ⟨rfl, vt1, hI1, hK1, hM1, hB1⟩
  have HI1 := Aside0.mk (show Wr w0.heap.size w1 g vt1 (wn s [(l.length : Int)]).1 (wn s [(l.length : Int)]).2 from hI1)
  have HK1 := Aside0.mk (show Kept w w1 (wr_ g vt) from (Kept.alloc (Kept.refl _ _) _).then_ hK1 (fun _ h => .inl h))
  have HM1 := Aside0.mk (show moved_ w vt vt1 from by
    rcases hM1 with h | ⟨b, h, hb⟩
    · exact .inl h
    · exact .inr ⟨b, h, by simp at hb; omega⟩)
  have HB1 := Aside0.mk (show Below w0.heap.size w0 w1 from (below_alloc HB0.out _).trans hB1)
  clear hI1 hK1 hM1 hB1
  obtain ⟨s1, es1⟩ : ∃ s1, s1 = wn s [(l.length : Int)] := ⟨_, rfl⟩
  rw [← es1] at HI1
  have HES := Aside0.mk es1
  have HLS := Aside0.mk (show s1.1.length = s.1.length + 1 from by rw [es1, wn_length]; rfl)
  clear es1
  go_wp2
  go_loopg [13] l.length (fun kq v13 W => ∃ (i : Nat) (vt' : Value), v13 = .int .i64 (i : Int) ∧ Aside0 (i ≤ l.length ∧ kq = l.length - i) ∧ Aside0 (Wr w0.heap.size W g vt' ((l.take i).foldl wv s1).1 ((l.take i).foldl wv s1).2) ∧ Aside0 (Kept w W (wr_ g vt)) ∧ Aside0 (moved_ w vt vt') ∧ Aside0 (Below w0.heap.size w0 W))
  case atStart => exact ⟨0, vt1, rfl, ⟨Nat.zero_le _, by omega⟩, ⟨by simpa using HI1.out⟩, HK1, HM1, HB1⟩
  case round =>
    obtain ⟨i, vt', rfl, HIQ, HR, HK, HM, HB⟩ := hrel
    by_cases hlt : i < l.length
    · obtain ⟨ad, eA, hx0, hx1⟩ := at_T27 HL.out (i : Int) (by omega) (by omega)
      subst eA
      have hx0' := (HB.out.cell (World.block_lt_of_cell? w0 _ hx0)).trans hx0
      have hx1' := (HB.out.cell (World.block_lt_of_cell? w0 _ hx1)).trans hx1
      have hp0 : (0 ≤ (i : Int)) = True := by simp
      have hp1 : ((i : Int) < (l.length : Int)) = True := by simp; omega
      have hdec : decide ((i : Int) < (l.length : Int)) = true := by simp; omega
      have hdec2 : decide (i < l.length) = true := by simp; omega
      rw [Int.toNat_natCast] at hx0' hx1'
      have HSN := Aside0.mk (show l.take (i + 1) = l.take i ++ [rd_T27 l (i : Int)] from by unfold rd_T27; rw [Int.toNat_natCast]; exact take_snoc l i hlt _)
      have HLT := Aside0.mk hlt
      have hln : ((l.take i).foldl wv s1).1.length = s1.1.length + i := by rw [fold_wv_length, List.length_take]; omega
      have HLN := Aside0.mk hln
      clear hx0 hx1 hlt hln
      generalize rd_T27 l (i : Int) = v at hx0' hx1' HSN
      go_wp2_with fail
      refine (value_calls w0.heap.size _ g vt' ((l.take i).foldl wv s1) v (HR.out.alloc _) ?bd).mono ?_
      case bd => have := HD.out; have := HLN.out; have := HLS.out; have := HLT.out; omega
      rintro r w2 ⟨rfl, vt2, hI2, hK2, hM2, hB2⟩
      have HI2 := Aside0.mk hI2
      have HK2 := Aside0.mk (kept_then HK.out HM.out ((Kept.alloc (Kept.refl wr (wr_ g vt')) _).then_ hK2 (fun _ h => .inl h)))
      have HM2 := Aside0.mk (HM.out.trans hM2 (by have h_ := HK.out.1; simp; omega))
      have HB2 := Aside0.mk ((below_alloc HB.out _).trans hB2)
      clear hI2 hK2 hM2 hB2
      go_wp2
      go_roundg (l.length - (i + 1))
      case measure => have := HIQ.out; have := HLT.out; omega
      case rel =>
        refine ⟨i + 1, vt2, by first | rfl | (have := HLT.out; rw [show wrap64 ((i : Int) + 1) = ((i + 1 : Nat) : Int) from by have h_ := HD.out; unfold wrap64; omega]), ⟨by have := HLT.out; omega, rfl⟩, ⟨?_⟩, HK2, HM2, HB2⟩
        rw [HSN.out, fold_snoc]
        exact HI2.out
    · have hdec : decide ((i : Int) < (l.length : Int)) = false := by simp; omega
      have hdec2 : decide (i < l.length) = false := by simp; omega
      have HLT := Aside0.mk hlt
      clear hlt
      go_wp2
      go_end0
      have hi : i = l.length := by have := HIQ.out; have := HLT.out; omega
      subst hi
      rw [List.take_length] at HR
      refine ⟨rfl, vt', ?_, HK.out, HM.out, HB.out⟩
      unfold wvs
      rw [← HES.out]
      exact HR.out
end Go.Proofs.Ytkefekdphkclmaa.Wrt
