/- The law function WordsCut: what it answers. -/
import Derived.Test.YtkefekdphkclmaaPC9
import Derived.Test.YtkefekdphkclmaaPC8
import Derived.Test.YtkefekdphkclmaaPC5
import Derived.RegionTactic
import Derived.ChangeAlike
set_option linter.unusedVariables false
set_option linter.unusedSimpArgs false
namespace Go.Proofs.Ytkefekdphkclmaa.PC
open Go.RowKit Go.Proofs.YtkefekdphkclmaaW.PrintWords Go.Proofs.YtkefekdphkclmaaW.PrintLast Go.Proofs.YtkefekdphkclmaaW.PrintMore

def backstitchkeep3_WordsCut.f (k : Nat) (a0_0 : Int) (a0_1 : Int) (l0_2 : List (S27)) (l0_3 : List (S30)) (a1 : Int) : Option Bool :=
  (backstitchkeep3_worded.f k).bind fun t => if t = true then (words_Of.f k a0_0 a0_1 l0_2 l0_3).bind fun q => if q.2 = 0 then (backstitchref3_Rest.f a1 (q.1.length : Int)).bind fun n => if 0 ≤ n ∧ n ≤ (q.1.length : Int) then (words_Back.f k (q.1.take n.toNat)).bind fun b => some (b.2.2.2.2.2 == 3) else none else some true else some false
set_option maxHeartbeats 8000000 in
set_option maxRecDepth 100000 in
theorem backstitchkeep3_WordsCut.calls (k : Nat) (a0_0 : Int) (a0_1 : Int) (A0_2 : Option Addr) (c0_2 : Nat) (l0_2 : List (S27)) (A0_3 : Option Addr) (c0_3 : Nat) (l0_3 : List (S30)) (a1 : Int) (r : Bool) (w : World) (hr0_2 : Kd.C k27 w A0_2 l0_2.length l0_2) (hc0_2 : l0_2.length ≤ c0_2) (hr0_3 : Kd.C k30 w A0_3 l0_3.length l0_3) (hc0_3 : l0_3.length ≤ c0_3) (h : backstitchkeep3_WordsCut.f k a0_0 a0_1 l0_2 l0_3 a1 = some r) :
    Calls Try.prog 6 #[.agg #[.int .i64 a0_0, .int .i64 a0_1, .slice A0_2 l0_2.length c0_2, .slice A0_3 l0_3.length c0_3], .int .i64 a1] w fun e w' => e = .returned (.bool r) ∧ Below w.heap.size w w' := by
  have HR2 := Aside0.mk hr0_2
  have HR3 := Aside0.mk hr0_3
  have HC2 := Aside0.mk hc0_2
  have HC3 := Aside0.mk hc0_3
  clear hr0_2 hr0_3 hc0_2 hc0_3
  unfold backstitchkeep3_WordsCut.f at h
  obtain ⟨t, ht, h⟩ := Option.bind_eq_some_iff.1 h
  have HT := Aside0.mk ht
  clear ht
  have hB0 : Below w.heap.size w (w.alloc (Obj.cells #[.int .i64 a0_0, .int .i64 a0_1, .slice A0_2 l0_2.length c0_2, .slice A0_3 l0_3.length c0_3] 25)) := below_alloc (Below.refl _ _) _
  have HB0 := Aside0.mk hB0
  have HK0 := Aside0.mk (heap_alloc_new w (Obj.cells #[.int .i64 a0_0, .int .i64 a0_1, .slice A0_2 l0_2.length c0_2, .slice A0_3 l0_3.length c0_3] 25))
  clear hB0
  cases t with
  | false =>
    simp only [Bool.false_eq_true, if_false, Option.some.injEq] at h
    subst h
    go_enter Try.func6, Try.ntmps6
    go_wp2_with fail
    refine (backstitchkeep3_worded.calls k false _ HT.out).mono ?_
    rintro e w1 ⟨rfl, hb⟩
    have HB1 := Aside0.mk (below_step HB0.out hb)
    clear hb
    go_wp2
    go_ret
    exact ⟨rfl, HB1.out⟩
  | true =>
    simp only [if_true] at h
    obtain ⟨⟨q1, q2⟩, hq, h⟩ := Option.bind_eq_some_iff.1 h
    have HQ := Aside0.mk hq
    have H := Aside0.mk h
    clear hq h
    go_enter Try.func6, Try.ntmps6
    go_wp2_with fail
    refine (backstitchkeep3_worded.calls k true _ HT.out).mono ?_
    rintro e w1 ⟨rfl, hb⟩
    have HB1 := Aside0.mk (below_step HB0.out hb)
    have hbx := blk_below HK0.out hb
    have hc0 : w1.cell? ⟨w.heap.size, 0, none⟩ = some (.int .i64 a0_0) := (blk_cell hbx 0).trans rfl
    have hc1 : w1.cell? ⟨w.heap.size, 1, none⟩ = some (.int .i64 a0_1) := (blk_cell hbx 1).trans rfl
    have hc2 : w1.cell? ⟨w.heap.size, 2, none⟩ = some (.slice A0_2 l0_2.length c0_2) := (blk_cell hbx 2).trans rfl
    have hc3 : w1.cell? ⟨w.heap.size, 3, none⟩ = some (.slice A0_3 l0_3.length c0_3) := (blk_cell hbx 3).trans rfl
    clear hb hbx
    go_wp2_with fail
    refine (words_Of.calls k a0_0 a0_1 A0_2 c0_2 l0_2 A0_3 c0_3 l0_3 q1 q2 _ (Kd.C_below HR2.out HB1.out) HC2.out (Kd.C_below HR3.out HB1.out) HC3.out HQ.out).mono ?_
    rintro e w2 ⟨v0, rfl, ho, hb⟩
    obtain ⟨A4, c4, rfl, hc4, hC4⟩ := Kd.R_reads ho
    have HB2 := Aside0.mk (below_step HB1.out hb)
    have HC4 := Aside0.mk hC4
    have HL4 := Aside0.mk hc4
    clear hb ho hC4 hc4 hc0 hc1 hc2 hc3
    by_cases he : q2 = 0
    · have h := H.out
      simp only [he, if_true] at h
      obtain ⟨n, hn, h⟩ := Option.bind_eq_some_iff.1 h
      have hn2 : 0 ≤ n ∧ n ≤ (q1.length : Int) := by
        by_cases hn2 : 0 ≤ n ∧ n ≤ (q1.length : Int)
        · exact hn2
        · rw [if_neg hn2] at h; exact absurd h (by simp)
      rw [if_pos hn2] at h
      obtain ⟨⟨b1, b2, b3, b4, b5, b6⟩, hbk, h⟩ := Option.bind_eq_some_iff.1 h
      have HN := Aside0.mk hn
      have HBK := Aside0.mk hbk
      have h := Option.some.inj h
      simp only at h
      subst h
      have hd4 : (q2 == 0) = true := by simpa using he
      have hd5 : (q2 != 0) = false := by simp [he]
      have hp0 : (0 ≤ n) = True := eq_true hn2.1
      have hp1 : (n ≤ (q1.length : Int)) = True := eq_true hn2.2
      clear H he hn hbk hn2
      go_wp2_with fail
      refine (backstitchref3_Rest.calls a1 (q1.length : Int) n _ HN.out).mono ?_
      rintro e w3 ⟨rfl, hd⟩
      have HB3 := Aside0.mk (below_step HB2.out hd.below)
      have HC5 := Aside0.mk (Kd.C_below HC4.out hd.below)
      clear hd
      have HNN := Aside0.mk (And.intro (of_eq_true hp0) (of_eq_true hp1))
      have HC6 : Aside0 (Kd.C (Kd.int .u64) w3 A4 (q1.take n.toNat).length (q1.take n.toNat)) := ⟨by
        have h_ := HNN.out
        have h2_ := HC5.out
        exact Kd.C_take h2_ (by omega)⟩
      have hsl : Value.slice A4 n.toNat c4 = Value.slice A4 (q1.take n.toNat).length c4 := by
        have h_ := HNN.out
        rw [List.length_take, Nat.min_eq_left (by omega)]
      have HSL := Aside0.mk hsl
      clear hsl
      have hp2 : (n ≤ (c4 : Int)) = True := eq_true (by have h_ := HNN.out; have h2_ := HL4.out; omega)
      go_wp2_with fail
      rw [HSL.out]
      refine (words_Back.calls k A4 c4 (q1.take n.toNat) b1 b2 b3 b4 b5 b6 _ HC6.out (by have h_ := HL4.out; rw [List.length_take]; omega) HBK.out).mono ?_
      rintro e w4 ⟨v2, v3, rfl, ho2, ho3, hb⟩
      obtain ⟨A7, c7, rfl⟩ := Kd.R_slice ho2
      obtain ⟨A8, c8, rfl⟩ := Kd.S_slice ho3
      have HB4 := Aside0.mk (below_step HB3.out hb)
      clear hb ho2 ho3 hp0 hp1 hp2
      go_wp2_with fail
      refine (backstitchkeep3_worded.calls k true _ HT.out).mono ?_
      rintro e w5 ⟨rfl, hb⟩
      have HB5 : Aside0 (Below w.heap.size w w5) := ⟨by
        refine below_step ?_ hb
        repeat (first | exact HB4.out | apply below_alloc | refine Below.setCell ?_ (by simp; exact HB4.out.size) _)⟩
      clear hb
      go_wp2
      go_ret
      exact ⟨rfl, HB5.out⟩
    · have hr : r = true := by
        have h := H.out
        rw [if_neg he] at h
        exact (Option.some.inj h).symm
      subst hr
      have hd4 : (q2 == 0) = false := by simpa using he
      have hd5 : (q2 != 0) = true := by simp [he]
      clear he
      go_wp2_with fail
      refine (backstitchkeep3_worded.calls k true _ HT.out).mono ?_
      rintro e w5 ⟨rfl, hb⟩
      have HB5 := Aside0.mk (below_step HB2.out hb)
      clear hb
      go_wp2
      go_ret
      exact ⟨rfl, HB5.out⟩
end Go.Proofs.Ytkefekdphkclmaa.PC
