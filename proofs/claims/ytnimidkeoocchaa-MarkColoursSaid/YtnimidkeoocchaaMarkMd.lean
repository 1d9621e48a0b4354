/- The law functions' own words on markers: marked, the count. -/
import Derived.Test.YtnimidkeoocchaaMarkDo
import Derived.Test.YtnimidkeoocchaaPKd
import Derived.Test.YtnimidkeoocchaaPK1
set_option linter.unusedVariables false
set_option linter.unusedSimpArgs false
namespace Go.Proofs.Ytnimidkeoocchaa.Mrk
open Go.RowKit Go.Proofs.YtnimidkeoocchaaW.PrintWords Go.Proofs.YtnimidkeoocchaaW.PrintLast Go.Proofs.YtnimidkeoocchaaW.PrintMore Go.Proofs.Ytnimidkeoocchaa.PK Go.Proofs.Ytnimidkeoocchaa.Hnd Go.Proofs.Ytnimidkeoocchaa.Rch

theorem MS.bound {W : World} {ok : Nat → Prop} {g : Nat} {kind : Int} {mk : Bool} {v : Value} {ps : List Value} {l : List Th} (h : MS W ok g kind mk v ps l) : MS W (fun k => ok k ∧ k < W.heap.size) g kind mk v ps l :=
  ⟨⟨h.gok, blk_lt h.obj⟩, h.obj, h.row, h.len, h.pl, fun k hk => ⟨h.vok k hk, (h.row.lt k hk).2⟩, fun p hp k hk => by
    obtain ⟨i, hi, rfl⟩ := List.getElem_of_mem hp
    exact ⟨h.pok _ (List.getElem_mem hi) k hk, ((h.pl i (by have := h.len; omega)).lt k hk).2⟩, h.sep⟩
def cnt (l : List Int) (c : Int) : Nat := l.countP (fun x => x == c)
theorem cnt_next {l : List Int} {i : Nat} (h : i < l.length) (c : Int) : cnt (l.take (i + 1)) c = cnt (l.take i) c + (if l[i] == c then 1 else 0) := by
  unfold cnt
  rw [List.take_succ_eq_append_getElem h, List.countP_append]
  simp [List.countP_cons]
set_option maxHeartbeats 4000000 in
set_option maxRecDepth 100000 in
theorem count_calls (w : World) (A : Option Addr) (c : Nat) (l : List Int) (y : Int) (hl : (Kd.int .i64).C w A l.length l) (hz : l.length ≤ 1000) :
    Calls Try.prog 26 #[.slice A l.length c, .int .i64 y] w fun e w' => e = .returned (.int .i64 (cnt l y : Int)) ∧ Below w.heap.size w w' := by
  have HL := Aside0.mk hl
  have HZ := Aside0.mk hz
  clear hl hz
  go_enter Try.func26, Try.ntmps26
  go_wp2
  go_loopg [5, 10] l.length (fun kq v5 v10 W => ∃ i : Nat, v10 = .int .i64 (i : Int) ∧ v5 = .int .i64 (cnt (l.take i) y : Int) ∧ Aside0 (i ≤ l.length ∧ kq = l.length - i) ∧ Aside0 (Below w.heap.size w W))
  case atStart => exact ⟨0, rfl, rfl, ⟨Nat.zero_le _, by omega⟩, ⟨by repeat (first | exact Below.refl _ _ | apply below_drew1)⟩⟩
  case round =>
    obtain ⟨i, rfl, rfl, HIQ, HB⟩ := hrel
    by_cases hlt : i < l.length
    · have hi0 : (0 : Int) ≤ (i : Int) := by omega
      have hi1 : (i : Int) < (l.length : Int) := by omega
      obtain ⟨ad, e, hx⟩ := Kd.at_int (Kd.C_below HL.out HB.out) (i : Int) (by omega) (by omega)
      rw [Int.toNat_natCast, rdI hlt] at hx
      subst e
      have hdec : decide ((i : Int) < (l.length : Int)) = true := decide_eq_true hi1
      have hdec2 : decide (i < l.length) = true := decide_eq_true hlt
      have HLT := Aside0.mk hlt
      have hcn := cnt_next hlt y
      have HW64 : Aside0 (wrap64 ((i : Int) + 1) = ((i + 1 : Nat) : Int)) := ⟨by have := HZ.out; unfold wrap64; omega⟩
      have hle : cnt (l.take i) y ≤ 1000 := by
        have h1 : cnt (l.take i) y ≤ (l.take i).length := List.countP_le_length
        rw [List.length_take] at h1
        have := HZ.out
        omega
      have HW65 : Aside0 (wrap64 ((cnt (l.take i) y : Int) + 1) = ((cnt (l.take i) y + 1 : Nat) : Int)) := ⟨by unfold wrap64; omega⟩
      generalize l[i] = x at hx hcn
      cases hq : (x == y) with
      | true =>
        rw [hq, if_pos rfl] at hcn
        have HCN := Aside0.mk hcn
        clear hcn hle
        go_wp2_with fail
        go_roundg (l.length - (i + 1))
        case measure => have := HIQ.out; have := HLT.out; omega
        case rel =>
          refine ⟨i + 1, ?_, ?_, ⟨by have := HLT.out; omega, rfl⟩, HB⟩
          · first | rfl | rw [HW64.out]
          · rw [HCN.out]; first | rfl | rw [HW65.out]
      | false =>
        rw [hq, if_neg (by decide)] at hcn
        have HCN := Aside0.mk hcn
        clear hcn hle
        go_wp2_with fail
        go_roundg (l.length - (i + 1))
        case measure => have := HIQ.out; have := HLT.out; omega
        case rel =>
          refine ⟨i + 1, ?_, ?_, ⟨by have := HLT.out; omega, rfl⟩, HB⟩
          · first | rfl | rw [HW64.out]
          · rw [HCN.out, Nat.add_zero]
    · have e_ : i = l.length := by have := HIQ.out; omega
      subst e_
      have hdec : decide ((l.length : Int) < (l.length : Int)) = false := decide_eq_false (by omega)
      have hdec2 : decide (l.length < l.length) = false := decide_eq_false hlt
      clear hlt HIQ
      go_wp2
      go_ret
      exact ⟨by first | rfl | (rw [List.take_length]; rfl), HB.out⟩
theorem do_1 : doL 1 false [] 1 0 0 0 = ⟨false, [⟨[], 0, true⟩], 0, 0⟩ := by rfl
theorem do_6 : doL 1 false [⟨[], 0, true⟩] 6 0 0 0 = ⟨true, [⟨[], 1, true⟩], 1, 0⟩ := by rfl
theorem eq_1 : backstitchref3_Eq_int.f 3 [1] [1] = some true := by simp [backstitchref3_Eq_int.f, backstitchref3_Eq_int.l0, rd, wrap64]
set_option maxHeartbeats 8000000 in
set_option maxRecDepth 100000 in
theorem marked_calls (w : World) : Calls Try.prog 24 #[] w fun e w' => e = .returned (.bool true) ∧ Below w.heap.size w w' := by
  go_enter Try.func24, Try.ntmps24
  go_wp2_with fail
  refine (new_calls w 1 (.inl rfl)).mono ?_
  rintro e w1 ⟨rfl, hm, hb⟩
  have HB1 := Aside0.mk hb
  have HC := Aside0.mk (do_calls w1 hm.bound ⟨by simp, fun x hx => by simp at hx⟩ (fun k hk => hk.2) 1 0 0 0 (by omega))
  rw [do_1] at HC
  clear hm hb
  go_wp2_with fail
  refine HC.out.mono ?_
  rintro e w2 ⟨rfl, ⟨v2, ps2, hm⟩, hf⟩
  have HF2 := Aside0.mk hf
  have HC2 := Aside0.mk (do_calls w2 hm.bound ⟨by simp, fun x hx => by simp at hx; subst hx; simp⟩ (fun k hk => hk.2) 6 0 0 0 (by omega))
  rw [do_6] at HC2
  clear hm hf HC
  go_wp2_with fail
  refine HC2.out.mono ?_
  rintro e w3 ⟨rfl, ⟨v3, ps3, hm⟩, hf⟩
  have HF3 := Aside0.mk hf
  have HM3 := Aside0.mk hm
  clear hm hf HC2
  go_wp2_with fail
  refine (marking_calls w3 HM3.out).mono ?_
  rintro e w4 ⟨rfl, hb4⟩
  have HB4 := Aside0.mk hb4
  have HC5 := Aside0.mk (colours_calls w4 (HM3.out.below hb4) (by simp))
  clear hb4
  go_wp2_with fail
  refine HC5.out.mono ?_
  rintro e w5 ⟨v0, rfl, hR, hb5⟩
  obtain ⟨A0, c0, e0⟩ := Kd.R_slice hR
  subst e0
  obtain ⟨_, hc0, hC0⟩ := Kd.R_reads' hR
  have HB5 := Aside0.mk hb5
  have hbx := below_alloc (Below.refl w5.heap.size w5) (Obj.cells #[.int .i64 1] 3)
  have HEQ := Aside0.mk (backstitchref3_Eq_int.calls 3 A0 c0 [1] (some ⟨w5.heap.size, 0, none⟩) 1 [1] true _ (Kd.C_below hC0 hbx) hc0 (C_one w5 1) (by simp) eq_1)
  have HBF : Aside0 (Below w.heap.size w (w5.alloc (Obj.cells #[.int .i64 1] 3))) := ⟨by
    have h2 : Below w.heap.size w w2 := HB1.out.trans (HF2.out.to_below HB1.out.size (fun k hk => by have := hk.1; omega))
    have h3 : Below w.heap.size w w3 := h2.trans (HF3.out.to_below h2.size (fun k hk => by rcases hk.1 with h_ | h_; have := h_.1; omega; have := HB1.out.size; omega))
    exact below_step (below_step (below_step h3 HB4.out) HB5.out) hbx⟩
  clear hR hc0 hC0 hb5 hbx HC5
  go_wp2_with fail
  refine HEQ.out.mono ?_
  rintro e w6 ⟨rfl, hd⟩
  have HB6 := Aside0.mk (below_step HBF.out hd.below)
  clear hd
  go_wp2_with fail
  go_ret
  exact ⟨rfl, HB6.out⟩
end Go.Proofs.Ytnimidkeoocchaa.Mrk
