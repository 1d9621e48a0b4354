/- Package words' Cells: what it answers. -/
import Derived.Test.YtkefekdphkclmaaPC7
import Derived.RegionTactic
import Derived.ChangeAlike
set_option linter.unusedVariables false
set_option linter.unusedSimpArgs false
namespace Go.Proofs.Ytkefekdphkclmaa.Wrc
open Go.RowKit Go.Proofs.YtkefekdphkclmaaW.PrintWords Go.Proofs.YtkefekdphkclmaaW.PrintLast Go.Proofs.YtkefekdphkclmaaW.PrintMore Go.Proofs.Ytkefekdphkclmaa.PC

abbrev SV := S27
abbrev SF := S30
abbrev SC := S25
/-- Cells one by one, n at most. -/
def loop (k : Nat) (l : List Int) : Nat → Int → Bool → List SC → Option (List SC × Int × Bool)
  | 0, at_, bad, out => some (out, at_, bad)
  | n + 1, at_, bad, out => if bad = true then some (out, at_, bad) else if out.length < 1000000 then (words_reader_cell.f k l at_ bad).bind fun r => loop k l n r.2.2.2.2.1 r.2.2.2.2.2 (out ++ [⟨r.1, r.2.1, r.2.2.1, r.2.2.2.1⟩]) else none
def cells.f (k : Nat) (l : List Int) : Option (List SC × Int) :=
  (words_reader_many.f l 0 false 300).bind fun m => if 0 ≤ m.1 ∧ m.1 ≤ 300 then (loop k l m.1.toNat m.2.1 m.2.2 []).bind fun q => some (if q.2.2 = true ∨ q.2.1 ≠ (l.length : Int) then ([], 3) else (q.1, 0)) else none
theorem info_cell : (Try.prog.info? 25).map (fun i => (i.zero, i.size, i.bytes)) = some (some (.agg #[.int .i64 0, .int .i64 0, .slice none 0 0, .slice none 0 0]), 4, 64) := by kernel_rfl
set_option maxHeartbeats 8000000 in
set_option maxRecDepth 100000 in
theorem cells_calls (k : Nat) (A0 : Option Addr) (c0 : Nat) (l0 : List Int) (w : World) (hr0 : Kd.C (Kd.int .u64) w A0 l0.length l0) (hc0 : l0.length ≤ c0)
    (r1 : List SC) (r2 : Int) (h : cells.f k l0 = some (r1, r2)) :
    Calls Try.prog 23 #[.slice A0 l0.length c0] w fun e w' => ∃ v0 : Value, e = .returned (.tuple #[v0, .int .i64 r2]) ∧ Kd.N k25 25 w' w.heap.size (fun _ => True) v0 r1 ∧ Below w.heap.size w w' := by
  have HR0 := Aside0.mk hr0
  have HC0 := Aside0.mk hc0
  unfold cells.f at h
  obtain ⟨⟨m1, m2, m3⟩, hm, h⟩ := Option.bind_eq_some_iff.1 h
  have hm01 : 0 ≤ m1 ∧ m1 ≤ 300 := by
    by_cases hx : 0 ≤ m1 ∧ m1 ≤ 300
    · exact hx
    · rw [if_neg hx] at h; exact absurd h (by simp)
  rw [if_pos hm01] at h
  obtain ⟨⟨q1, q2, q3⟩, hq, h⟩ := Option.bind_eq_some_iff.1 h
  have HM := Aside0.mk hm
  have HQ := Aside0.mk hq
  have HX := Aside0.mk (Option.some.inj h)
  have hU := Try.underlying50
  obtain ⟨nn, rfl⟩ : ∃ nn : Nat, m1 = (nn : Int) := ⟨m1.toNat, by omega⟩
  have HN := Aside0.mk hm01
  clear hr0 hc0 hm hq h hm01
  go_enter Try.func23, Try.ntmps23
  go_wp2_with fail
  have hI0 := IsS83.new w w A0 c0 l0 0 false (Below.refl _ _) HR0.out
  refine (words_reader_many.calls w.heap.size l0 0 false 300 (nn : Int) m2 m3 w _ hI0 (below_alloc (Below.refl _ _) _) HM.out).mono ?_
  rintro e w1 ⟨rfl, hI1, hB1, hK1⟩
  have HI1 := Aside0.mk hI1
  have HB1 := Aside0.mk hB1
  clear hI0 hI1 hB1 hK1
  go_wp2_with fail
  go_loopg [5, 6] nn (fun kq v5 v6 W => ∃ (n : Nat) (at_ : Int) (bad : Bool) (out : List SC), v6 = .int .i64 (n : Int) ∧ Aside0 (n = kq ∧ n ≤ 300) ∧ Aside0 (loop k l0 n at_ bad out = some (q1, q2, q3)) ∧ Aside0 (IsS83 w W w.heap.size l0 at_ bad) ∧ Aside0 (Kd.N k25 25 W w.heap.size (fun b => b ≠ w.heap.size) v5 out) ∧ Aside0 (Below w.heap.size w W))
  case atStart => exact ⟨nn, m2, m3, [], rfl, ⟨rfl, by have := HN.out; omega⟩, ⟨by have := HQ.out; simpa using this⟩, HI1, ⟨Kd.N_nil _ _ _ _ _⟩, HB1⟩
  case round =>
    obtain ⟨n, at_, bad, out, rfl, HNK, HLO, HI, HO, HB⟩ := hrel
    obtain ⟨Ar, cr, hg, hge, hCr⟩ := HI.out
    have hc1 : wr.cell? ⟨w.heap.size, 1, none⟩ = some (.int .i64 at_) := (blk_cell hg 1).trans rfl
    have hc2 : wr.cell? ⟨w.heap.size, 2, none⟩ = some (.bool bad) := (blk_cell hg 2).trans rfl
    clear hg hge hCr
    have hend : (n = 0 ∨ bad = true) → (q1, q2, q3) = (out, at_, bad) := by
      intro hx
      have h_ := HLO.out
      cases n with
      | zero => rw [loop] at h_; exact (Option.some.inj h_).symm
      | succ n =>
        rw [loop, if_pos (by simpa using hx)] at h_
        exact (Option.some.inj h_).symm
    have HEND := Aside0.mk hend
    clear hend
    cases n with
    | zero =>
      have hX := HX.out
      have e := HEND.out (.inl rfl)
      simp only [Prod.mk.injEq] at e
      obtain ⟨rfl, rfl, rfl⟩ := e
      cases q3 with
      | true =>
        simp only [true_or, if_true, Prod.mk.injEq] at hX
        obtain ⟨rfl, rfl⟩ := hX
        go_wp2
        go_ret2
        exact ⟨_, rfl, Kd.N_nil _ _ _ _ _, HB.out⟩
      | false =>
        by_cases hat : q2 = (l0.length : Int)
        · rw [if_neg (by simp [hat])] at hX
          simp only [Prod.mk.injEq] at hX
          obtain ⟨rfl, rfl⟩ := hX
          have hd1 : (q2 == (l0.length : Int)) = true := by simpa using hat
          have hd2 : (q2 != (l0.length : Int)) = false := by simp [hat]
          clear hat
          go_wp2
          go_ret2
          exact ⟨_, rfl, Kd.N_mono HO.out (fun _ _ => trivial), HB.out⟩
        · rw [if_pos (.inr hat)] at hX
          simp only [Prod.mk.injEq] at hX
          obtain ⟨rfl, rfl⟩ := hX
          have hd1 : (q2 == (l0.length : Int)) = false := by simpa using hat
          have hd2 : (q2 != (l0.length : Int)) = true := by simp [hat]
          clear hat
          go_wp2
          go_ret2
          exact ⟨_, rfl, Kd.N_nil _ _ _ _ _, HB.out⟩
    | succ n =>
      have hd0 : decide ((0 : Int) < ((n + 1 : Nat) : Int)) = true := decide_eq_true (by omega)
      cases bad with
      | true =>
        have hX := HX.out
        have e := HEND.out (.inr rfl)
        simp only [Prod.mk.injEq] at e
        obtain ⟨rfl, rfl, rfl⟩ := e
        simp only [true_or, if_true, Prod.mk.injEq] at hX
        obtain ⟨rfl, rfl⟩ := hX
        go_wp2
        go_ret2
        exact ⟨_, rfl, Kd.N_nil _ _ _ _ _, HB.out⟩
      | false =>
        have hL := HLO.out
        rw [loop, if_neg (by decide)] at hL
        by_cases hlen : out.length < 1000000
        · rw [if_pos hlen] at hL
          obtain ⟨⟨p1, p2, p3, p4, p5, p6⟩, hp, hL⟩ := Option.bind_eq_some_iff.1 hL
          have HP := Aside0.mk hp
          have HL := Aside0.mk hL
          have HLEN := Aside0.mk hlen
          clear hp hL hlen
          go_wp2_with fail
          refine (words_reader_cell.calls k w.heap.size l0 at_ false p1 p2 p3 p4 p5 p6 w _ HI.out HB.out HP.out).mono ?_
          rintro e w2 ⟨v3, v4, rfl, ho3, ho4, hI2, hB2, hK2⟩
          obtain ⟨A3, c3, rfl, hc3, hC3⟩ := Kd.R_reads ho3
          obtain ⟨A4, c4, rfl, hc4, hC4⟩ := Kd.S_reads ho4
          have hlt : wr.heap.size ≤ w2.heap.size := hK2.1
          have hown : ∀ k_, (u5 : Value).ownBlock = some k_ → k_ < wr.heap.size := Kd.N_lt HO.out
          have HO2 := Aside0.mk (Kd.N_keep HO.out hK2 (fun _ hk => hk))
          have HF : Aside0 (Kd.FK k25 w2 (fun k_ => wr.heap.size ≤ k_) (⟨p1, p2, p3, p4⟩ : SC) [.int .i64 p1, .int .i64 p2, .slice A3 p3.length c3, .slice A4 p4.length c4]) :=
            ⟨k25_mkF w2 _ ⟨p1, p2, p3, p4⟩ hc3 (Kd.F_mono (Kd.R_F (Kd.R_bound ho3)) (fun _ hk => hk.2.1)) hc4 (Kd.F_mono (Kd.R_F (Kd.R_bound (Kd.S_R ho4))) (fun _ hk => hk.2.1))⟩
          have HI2 := Aside0.mk hI2
          have HB2 := Aside0.mk hB2
          have HW := Aside0.mk hown
          have HBS := Aside0.mk (show w.heap.size ≤ w2.heap.size from hB2.size)
          have HG : Aside0 (w.heap.size < wr.heap.size) := ⟨IsS83.lt HI.out⟩
          clear ho3 ho4 hC3 hC4 hI2 hB2 hK2 hown hc3 hc4 hlt hc1 hc2
          go_wp2_with (first | ((with_reducible refine gate_builtin (b := .append) (xs := #[.tmp 23, .tmp 26]) rfl ?_); refine Kd.N_append k25 (w0 := w) w.heap.size rfl (.tmp 23) (.tmp 26) 50 25 (.agg #[.int .i64 0, .int .i64 0, .slice none 0 0, .slice none 0 0]) 64 rfl hU info_cell rfl (by decide) (by decide) u5 out ⟨p1, p2, p3, p4⟩ [.int .i64 p1, .int .i64 p2, .slice A3 p3.length c3, .slice A4 p4.length c4] (fun b => b ≠ w.heap.size) _ rfl rfl HF.out ?hokp ?hfr HO2.out HB2.out HBS.out ?hl ?_; (case hokp => intro k_ hk; have h_ := HG.out; refine ⟨by omega, fun e_ => ?_⟩; have h2_ := HW.out k_ e_.symm; omega); (case hfr => intro k_ hk; have h_ := IsS83.lt HI2.out; omega); (case hl => have h_ := HLEN.out; omega); intro v1 w3 ho hb hg2 hat; have HO3 := Aside0.mk ho; have HB3 := Aside0.mk hb; have HI3 := Aside0.mk (IsS83.grown HI2.out hg2 (IsS83.own_neN HI2.out HO2.out (by decide))); clear ho hb hg2 hat))
          go_roundg n
          case measure => have := HNK.out; omega
          case rel => exact ⟨n, p5, p6, out ++ [⟨p1, p2, p3, p4⟩], by have := HNK.out; first | rfl | (rw [show wrap64 (n : Int) = (n : Int) from by unfold wrap64; omega]) | (rw [show wrap64 (((n + 1 : Nat) : Int) - 1) = (n : Int) from by unfold wrap64; omega]), ⟨rfl, by have := HNK.out; omega⟩, HL, HI3, HO3, HB3⟩
        · rw [if_neg hlen] at hL; exact absurd hL (by simp)
end Go.Proofs.Ytkefekdphkclmaa.Wrc
