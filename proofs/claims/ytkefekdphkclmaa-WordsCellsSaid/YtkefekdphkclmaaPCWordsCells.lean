/- The law function WordsCells: what it answers. -/
import Derived.Test.YtkefekdphkclmaaWordsCells
import Derived.Test.YtkefekdphkclmaaPC5
import Derived.Test.YtkefekdphkclmaaPC12
import Derived.Test.YtkefekdphkclmaaPC9
import Derived.Test.YtkefekdphkclmaaPC9
import Derived.Test.YtkefekdphkclmaaPC11
import Derived.Test.YtkefekdphkclmaaPC9
import Derived.Deep.RegionHeld3
import Derived.Deep.DeepCutAuto
import Derived.Deep.CutBlock
set_option linter.unusedVariables false
set_option linter.unusedSimpArgs false
namespace Go.Proofs.Ytkefekdphkclmaa.PC
open Go.RowKit Go.Proofs.YtkefekdphkclmaaW.PrintWords Go.Proofs.YtkefekdphkclmaaW.PrintLast Go.Proofs.YtkefekdphkclmaaW.PrintMore Go.Proofs.Ytkefekdphkclmaa.Wrc

def cellOk (k : Nat) (a b : SC) : Prop := ∃ vs p, backstitchref3_CellVals.f k a.f0 a.f1 a.f2 a.f3 = some vs ∧ backstitchkeep3_plain.f k vs = some p ∧ (p = true → backstitchkeep3_sameCell.f k a.f0 a.f1 a.f2 a.f3 b.f0 b.f1 b.f2 b.f3 = some true)
/-- What makes WordsCells answer true. -/
def wordsCellsOk (k : Nat) (l0 : List SC) (more : Int) : Prop :=
  backstitchkeep3_worded.f k = some true ∧ ∃ ws e, words_All.f k (l0.take 20) = some (ws, e) ∧ (e = 0 → 0 < ws.length ∧ ws.length ≤ 1000000 ∧ ∃ m, cells.f k ws = some (m, 0) ∧ m.length = (l0.take 20).length ∧ (∃ m2, cells.f k (ws ++ [more]) = some (m2, 3)) ∧ (∃ m3, cells.f k ws.dropLast = some (m3, 3)) ∧
    ∀ i : Nat, i < (l0.take 20).length → cellOk k (rd_T25 (l0.take 20) (i : Int)) (rd_T25 m (i : Int)))
open Classical in
noncomputable def backstitchkeep3_WordsCells.f (k : Nat) (l0 : List SC) (a1 : Int) : Option Bool := if wordsCellsOk k l0 a1 then some true else none
theorem take_min20 {α : Type} (l : List α) : l.take (min l.length 20) = l.take 20 := by
  rcases Nat.le_total l.length 20 with h1 | h1
  · rw [Nat.min_eq_left h1, List.take_length, List.take_of_length_le h1]
  · rw [Nat.min_eq_right h1]
theorem info_u64 : (Try.prog.info? 43).map (fun i => (i.zero, i.size, i.bytes)) = some (some (.int .u64 0), 1, 8) := by kernel_rfl
set_option maxHeartbeats 16000000 in
set_option maxRecDepth 100000 in
theorem backstitchkeep3_WordsCells.calls (k : Nat) (A0 : Option Addr) (c0 : Nat) (l0 : List (S25)) (a1 : Int) (r : Bool) (w : World) (hr0 : Kd.C k25 w A0 l0.length l0) (hc0 : l0.length ≤ c0) (h : backstitchkeep3_WordsCells.f k l0 a1 = some r) :
    Calls Try.prog 7 #[.slice A0 l0.length c0, .int .u64 a1] w fun e w' => e = .returned (.bool r) ∧ Below w.heap.size w w' := by
  have HR0 : Aside0 (Kd.C k25 w A0 (l0.take 20).length (l0.take 20)) := ⟨by
    have h_ := Kd.C_take hr0 (m := min l0.length 20) (by omega)
    have e_ := take_min20 l0
    rwa [e_] at h_⟩
  have HC0 : Aside0 ((l0.take 20).length ≤ c0) := ⟨by rw [List.length_take]; omega⟩
  have hlen : ((l0.take 20).length : Int) = min (l0.length : Int) 20 := by rw [List.length_take]; omega
  have HLEN := Aside0.mk hlen
  have HCC := Aside0.mk hc0
  unfold backstitchkeep3_WordsCells.f at h
  have hok : wordsCellsOk k l0 a1 := by
    by_cases hx : wordsCellsOk k l0 a1
    · exact hx
    · rw [if_neg hx] at h; exact absurd h (by simp)
  rw [if_pos hok] at h
  obtain rfl := Option.some.inj h
  obtain ⟨hw, ws, e, hA, hE⟩ := hok
  have HW := Aside0.mk hw
  have HA := Aside0.mk hA
  have HE := Aside0.mk hE
  have hU := Try.underlying32
  clear hr0 hc0 hlen h hw hA hE
  generalize hl : l0.take 20 = l at HR0 HC0 HLEN HA HE
  have HSML : Aside0 (l.length ≤ 20) := ⟨by rw [← hl, List.length_take]; omega⟩
  clear hl
  go_enter Try.func7, Try.ntmps7
  go_wp2_with fail
  refine (backstitchkeep3_worded.calls k true _ HW.out).mono ?_
  rintro e1 w1 ⟨rfl, hb⟩
  have HB1 := Aside0.mk hb
  clear hb
  go_upto_region 3 with fail
  go_cut [0] (fun s0 wx => s0 = .slice A0 l.length c0 ∧ wx = w1)
  case first =>
    by_cases h20 : (20 : Int) < (l0.length : Int)
    · have e20 : l.length = 20 := by have h_ := HLEN.out; omega
      have c20 : ((20 : Int) ≤ (c0 : Int)) = True := eq_true (by have h_ := HCC.out; omega)
      have d20 : decide ((20 : Int) < (l0.length : Int)) = true := decide_eq_true h20
      go_wp2_with fail
      go_meet
      exact ⟨by rw [e20], rfl⟩
    · have e20 : l.length = l0.length := by have h_ := HLEN.out; omega
      have c20 : ((l0.length : Int) ≤ (c0 : Int)) = True := eq_true (by have h_ := HCC.out; omega)
      go_wp2_with fail
      go_meet
      exact ⟨by rw [e20], rfl⟩
  case rest =>
  obtain ⟨rfl, rfl⟩ := hcut
  go_wp2_with fail
  refine (words_All.calls k A0 c0 l ws e _ (Kd.C_below HR0.out HB1.out) HC0.out HA.out).mono ?_
  rintro e1 w2 ⟨v0, rfl, ho, hb⟩
  obtain ⟨A2, c2, rfl, hc2, hC2⟩ := Kd.R_reads ho
  have HB2 := Aside0.mk (below_step HB1.out hb)
  have HO2 := Aside0.mk ho
  have HC2 := Aside0.mk hC2
  have HL2 := Aside0.mk hc2
  clear ho hb hc2 hC2
  by_cases he : e = 0
  · subst he
    obtain ⟨hp, hm6, m, hm, hml, ⟨m2, hm2⟩, ⟨m3, hm3⟩, hall⟩ := HE.out rfl
    have HP := Aside0.mk (And.intro hp hm6)
    have HM := Aside0.mk hm
    have HM2 := Aside0.mk hm2
    have HM3 := Aside0.mk hm3
    have HML := Aside0.mk hml
    have HALL := Aside0.mk hall
    clear hp hm6 hm hml hm2 hm3 hall
    go_wp2_with fail
    refine (cells_calls k A2 c2 ws _ HC2.out HL2.out m 0 HM.out).mono ?_
    rintro e1 w3 ⟨v3, rfl, ho3, hb3⟩
    have HB3 := Aside0.mk (below_step HB2.out hb3)
    obtain ⟨A3, c3, rfl, hc3, hF3⟩ := Kd.N_reads ho3
    have HM3C := Aside0.mk hF3
    have HM3L := Aside0.mk hc3
    have HC3 := Aside0.mk (Kd.C_below HC2.out hb3)
    have HO3 := Aside0.mk (Kd.R_below HO2.out hb3)
    clear hb3 ho3 hc3 hF3
    have hcp : backstitchref3_Copy_uint64.f ws = some ws := by
      unfold backstitchref3_Copy_uint64.f
      rw [if_pos (by have h_ := HP.out; simp; omega)]
      rfl
    have HCP := Aside0.mk hcp
    clear hcp
    go_wp2_with fail
    refine (backstitchref3_Copy_uint64.calls A2 c2 ws ws _ HC3.out HL2.out HCP.out).mono ?_
    rintro e1 w4 ⟨v4, rfl, ho4, hb4⟩
    have HB4 := Aside0.mk (below_step HB3.out hb4)
    have HB34 := Aside0.mk hb4
    obtain ⟨A4, c4, rfl⟩ := Kd.R_slice ho4
    have HO4 := Aside0.mk ho4
    have HZ4 := Aside0.mk (hb4.size)
    clear ho4 hb4
    go_wp2_with (first | ((with_reducible refine gate_builtin (b := .append) (xs := #[.tmp 36, .tmp 38]) rfl ?_); refine Kd.R_append (Kd.int .u64) (w0 := w3) w3.heap.size rfl (.tmp 36) (.tmp 38) 32 43 (.int .u64 0) 8 rfl hU info_u64 rfl (by decide) (by decide) (.slice A4 ws.length c4) ws a1 [.int .u64 a1] (fun _ => True) (fun _ => False) rfl rfl rfl (fun _ hk => hk.elim) (fun _ _ => trivial) HO4.out HB34.out HZ4.out ?hl ?_; (case hl => have h_ := HP.out; omega); intro v5 w5 ho hb hg2 hat; obtain ⟨A5, c5, e5, hc5, hC5⟩ := Kd.R_reads ho; subst e5; have HC5 := Aside0.mk hC5; have HL5 := Aside0.mk hc5; have HB35 := Aside0.mk hb; clear ho hb hg2 hat hc5 hC5))
    rw [show Value.slice A5 (ws.length + 1) c5 = Value.slice A5 (ws ++ [a1]).length c5 from by simp]
    refine (cells_calls k A5 c5 (ws ++ [a1]) _ HC5.out HL5.out m2 3 HM2.out).mono ?_
    rintro e1 w6 ⟨v6, rfl, ho6, hb6⟩
    obtain ⟨A6, c6, rfl, _, _⟩ := Kd.N_reads ho6
    have HB36 := Aside0.mk (below_step HB35.out hb6)
    have HB6 := Aside0.mk (below_step HB3.out HB36.out)
    clear ho6 hb6
    have hz1 : (1 : Int) ≤ (ws.length : Int) := by have h_ := HP.out; omega
    have hz2 : (ws.length : Int) ≤ 1000000 := by have h_ := HP.out; omega
    have hq0 : ((0 : Int) ≤ (ws.length : Int) - 1) = True := eq_true (by omega)
    have hq1 : ((1 : Int) ≤ (ws.length : Int)) = True := eq_true (by omega)
    have hq2 : ((ws.length : Int) - 1 ≤ (c2 : Int)) = True := eq_true (by have h_ := HL2.out; omega)
    have hq3 : ((ws.length : Int) - 1 ≤ (ws.length : Int)) = True := eq_true (by omega)
    go_wp2_with fail
    have e9 : ws.length - 1 = ws.dropLast.length := by rw [List.length_dropLast]
    rw [show Value.slice A2 (ws.length - 1) c2 = Value.slice A2 ws.dropLast.length c2 from by rw [e9]]
    refine (cells_calls k A2 c2 ws.dropLast _ ?c9 ?l9 m3 3 HM3.out).mono ?_
    case c9 =>
      have h_ := Kd.C_take (Kd.C_below HC3.out HB36.out) (m := ws.length - 1) (by omega)
      rwa [← List.dropLast_eq_take] at h_
    case l9 => have h_ := HL2.out; rw [List.length_dropLast]; omega
    rintro e1 w7 ⟨v7, rfl, ho7, hb7⟩
    obtain ⟨A7, c7, rfl, _, _⟩ := Kd.N_reads ho7
    have HB37 := Aside0.mk (below_step HB36.out hb7)
    clear ho7 hb7 hz1 hz2 hq0 hq1 hq2 hq3 e9
    have hml1 : ((m.length : Int) != (l.length : Int)) = false := by have h_ := HML.out; simp [h_]
    have hml2 : ((m.length : Int) == (l.length : Int)) = true := by have h_ := HML.out; simp [h_]
    go_wp2_with fail
    clear hml1 hml2
    go_loopg [71] l.length (fun kq v71 W => ∃ i : Nat, v71 = .int .i64 (i : Int) ∧ Aside0 (i ≤ l.length ∧ kq = l.length - i) ∧ Aside0 (Below w3.heap.size w3 W))
    case atStart => exact ⟨0, rfl, ⟨Nat.zero_le _, by omega⟩, HB37⟩
    case round =>
      obtain ⟨i, rfl, HIQ, HB⟩ := hrel
      have HBW : Aside0 (Below w.heap.size w wr) := ⟨below_step HB3.out HB.out⟩
      by_cases hlt : i < l.length
      · have hi0 : (0 : Int) ≤ (i : Int) := by omega
        have hi1 : (i : Int) < (l.length : Int) := by omega
        have hi2 : (i : Int) < (m.length : Int) := by have h_ := HML.out; omega
        obtain ⟨vs, p, hv1, hv2, hv3⟩ := HALL.out i hlt
        have hCl := Kd.C_below HR0.out HBW.out
        have hCm := Kd.C_below HM3C.out HB.out
        obtain ⟨ad, B2, d2, B3, d3, rfl, x0, x1, x2, x3, lx2, gx2, lx3, gx3⟩ := at_T25 hCl (i : Int) hi0 hi1
        obtain ⟨bd, D2, g2, D3, g3, e3, y0, y1, y2, y3, ly2, gy2, ly3, gy3⟩ := at_T25 hCm (i : Int) hi0 hi2
        subst e3
        simp only [Int.toNat_natCast] at x0 x1 x2 x3 y0 y1 y2 y3
        have hdec : decide ((i : Int) < (l.length : Int)) = true := decide_eq_true hi1
        have hdec2 : decide (i < l.length) = true := decide_eq_true hlt
        generalize rd_T25 l (i : Int) = a at x0 x1 x2 x3 lx2 gx2 lx3 gx3 hv1 hv3
        generalize rd_T25 m (i : Int) = b at y0 y1 y2 y3 ly2 gy2 ly3 gy3 hv3
        have HV1 := Aside0.mk hv1
        have HV2 := Aside0.mk hv2
        have HV3 := Aside0.mk hv3
        have HLX := Aside0.mk (And.intro lx2 lx3)
        have HLY := Aside0.mk (And.intro ly2 ly3)
        have HGX := Aside0.mk (And.intro gx2 gx3)
        have HGY := Aside0.mk (And.intro gy2 gy3)
        have HLT := Aside0.mk hlt
        clear hv1 hv2 hv3 lx2 lx3 ly2 ly3 gx2 gx3 gy2 gy3 hCl hCm hlt
        have hBr : Below wr.heap.size wr wr.drew := below_drew (Below.refl _ _)
        cases p with
        | true =>
          have hsame := HV3.out rfl
          have HSM := Aside0.mk hsame
          clear hsame
          go_wp2_with fail
          go_region_held3 (fun w' => Below wr.heap.size wr w' ∧ w'.cell? (ad.add (i * 4)) = some (.int .i64 a.f0) ∧ w'.cell? ⟨(ad.add (i * 4)).block, (ad.add (i * 4)).off + 1, none⟩ = some (.int .i64 a.f1) ∧ w'.cell? ⟨(ad.add (i * 4)).block, (ad.add (i * 4)).off + 2, none⟩ = some (.slice B2 a.f2.length d2) ∧ w'.cell? ⟨(ad.add (i * 4)).block, (ad.add (i * 4)).off + 3, none⟩ = some (.slice B3 a.f3.length d3) ∧ w'.cell? (bd.add (i * 4)) = some (.int .i64 b.f0) ∧ w'.cell? ⟨(bd.add (i * 4)).block, (bd.add (i * 4)).off + 1, none⟩ = some (.int .i64 b.f1) ∧ w'.cell? ⟨(bd.add (i * 4)).block, (bd.add (i * 4)).off + 2, none⟩ = some (.slice D2 b.f2.length g2) ∧ w'.cell? ⟨(bd.add (i * 4)).block, (bd.add (i * 4)).off + 3, none⟩ = some (.slice D3 b.f3.length g3))
            (first | (go_keep; done) | ((repeat' apply And.intro) <;> (first | assumption | exact below_step (by first | assumption | exact And.left (by assumption)) hb | exact pw_cell_below (w := wr) (below_step (by first | assumption | exact And.left (by assumption)) hb) (by assumption))))
            (first | (go_at_call 16; refine (backstitchref3_CellVals.calls k a.f0 a.f1 B2 d2 a.f2 B3 d3 a.f3 vs _ ?ac1 HLX.out.1 ?ac2 HLX.out.2 HV1.out).mono ?_; (case ac1 => exact Kd.C_below HGX.out.1 (by first | assumption | exact And.left (by assumption))); (case ac2 => exact Kd.C_below HGX.out.2 (by first | assumption | exact And.left (by assumption))); rintro e w8 ⟨v8, rfl, ho8, hb⟩; obtain ⟨A8, c8, rfl, hc8, hC8⟩ := Kd.R_reads ho8) | (go_at_call 15; refine (backstitchkeep3_plain.calls k A8 c8 vs true _ hC8 hc8 HV2.out).mono ?_; rintro e w9 ⟨rfl, hb⟩) | (go_at_call 19; refine (backstitchkeep3_sameCell.calls k a.f0 a.f1 B2 d2 a.f2 B3 d3 a.f3 b.f0 b.f1 D2 g2 b.f2 D3 g3 b.f3 true _ ?ad1 HLX.out.1 ?ad2 HLX.out.2 ?ad3 HLY.out.1 ?ad4 HLY.out.2 HSM.out).mono ?_; (case ad1 => exact Kd.C_below HGX.out.1 (by first | assumption | exact And.left (by assumption))); (case ad2 => exact Kd.C_below HGX.out.2 (by first | assumption | exact And.left (by assumption))); (case ad3 => exact Kd.C_below HGY.out.1 (by first | assumption | exact And.left (by assumption))); (case ad4 => exact Kd.C_below HGY.out.2 (by first | assumption | exact And.left (by assumption))); rintro e w10 ⟨rfl, hb⟩))
          all_goals
            go_wp2
            go_roundg (l.length - (i + 1))
            case measure => have := HIQ.out; have := HLT.out; omega
            case rel => exact ⟨i + 1, by first | rfl | (have := HLT.out; have := HML.out; rw [show wrap64 ((i : Int) + 1) = ((i + 1 : Nat) : Int) from by have := HSML.out; unfold wrap64; omega]), ⟨by have := HLT.out; omega, rfl⟩, ⟨below_step HB.out (by first | assumption | exact And.left (by assumption))⟩⟩
        | false =>
          clear HV3
          go_wp2_with fail
          refine start_ (n := 18) (S := fun w' => Below wr.heap.size wr w' ∧ w'.cell? (ad.add (i * 4)) = some (.int .i64 a.f0) ∧ w'.cell? ⟨(ad.add (i * 4)).block, (ad.add (i * 4)).off + 1, none⟩ = some (.int .i64 a.f1) ∧ w'.cell? ⟨(ad.add (i * 4)).block, (ad.add (i * 4)).off + 2, none⟩ = some (.slice B2 a.f2.length d2) ∧ w'.cell? ⟨(ad.add (i * 4)).block, (ad.add (i * 4)).off + 3, none⟩ = some (.slice B3 a.f3.length d3)) (ds := []) #[false, false, false, false, false, false, false, false, false, false, false, false, false, false, false, false, false, false] (by kernel_rfl) rfl rfl ⟨hBr, x0, x1, x2, x3⟩ (fun hHeld => ?_)
          refine pure_ (i := 0) (N := some 74) (v := ?_) (a' := ?_) #[true, false, false, false, false, false, false, false, false, false, false, false, false, false, false, false, false, false] rfl rfl (by kernel_rfl) (fun _ _ _ h => h) (Or.inl ⟨by rfl, ?_⟩) ?_ ?_
          rotate_left
          · intro w'
            go_simp
            with_reducible rfl
          rotate_left
          · simp only [Act.put, List.setIfInBounds_toArray, List.set_cons_zero, List.set_cons_succ, i64_w, i32_w]
            rfl
          refine pure_ (i := 1) (N := some 75) (v := ?_) (a' := ?_) #[true, true, false, false, false, false, false, false, false, false, false, false, false, false, false, false, false, false] rfl rfl (by kernel_rfl) (fun _ _ _ h => h) (Or.inl ⟨by rfl, ?_⟩) ?_ ?_
          rotate_left
          · intro w'
            go_simp
            with_reducible rfl
          rotate_left
          · simp only [Act.put, List.setIfInBounds_toArray, List.set_cons_zero, List.set_cons_succ, i64_w, i32_w]
            rfl
          refine pure_ (i := 2) (N := some 76) (v := ?_) (a' := ?_) #[true, true, true, false, false, false, false, false, false, false, false, false, false, false, false, false, false, false] rfl rfl (by kernel_rfl) (fun _ _ _ h => h) (Or.inl ⟨by rfl, ?_⟩) ?_ ?_
          rotate_left
          · intro w'
            go_simp
            with_reducible rfl
          rotate_left
          · simp only [Act.put, List.setIfInBounds_toArray, List.set_cons_zero, List.set_cons_succ, i64_w, i32_w]
            rfl
          refine take_ (i := 3) (N := some 77) (v := ?_) (a' := ?_) #[true, true, true, true, false, false, false, false, false, false, false, false, false, false, false, false, false, false] rfl rfl (by kernel_rfl) (fun _ _ _ h => h) (Or.inl ⟨by rfl, ?_⟩) hHeld ?_ ?_
          rotate_left
          · rintro w' ⟨s0, s1, s2, s3, s4⟩
            go_simp
            with_reducible rfl
          rotate_left
          · simp only [Act.put, List.setIfInBounds_toArray, List.set_cons_zero, List.set_cons_succ, i64_w, i32_w]
            rfl
          refine one_ (i := 4) (N := some 78) #[true, true, true, true, true, false, false, false, false, false, false, false, false, false, false, false, false, false] rfl rfl (by kernel_rfl) (by decide) (fun K hK => ?_)
          refine goes_ Try.func16 (by kernel_rfl) rfl #[.agg #[.int .i64 a.f0, .int .i64 a.f1, .slice B2 a.f2.length d2, .slice B3 a.f3.length d3]] (by rfl) rfl rfl (by simp only [List.map_toArray, List.map_cons, List.map_nil]; rfl) ?_
          with_reducible refine (backstitchref3_CellVals.calls k a.f0 a.f1 B2 d2 a.f2 B3 d3 a.f3 vs _ (Kd.C_below HGX.out.1 hHeld.1) HLX.out.1 (Kd.C_below HGX.out.2 hHeld.1) HLX.out.2 HV1.out).mono ?_
          rintro e w8 ⟨v8, rfl, ho8, hb⟩
          refine ⟨_, rfl, ?_⟩
          obtain ⟨A8, c8, rfl, hc8, hC8⟩ := Kd.R_reads ho8
          refine hK.out _ _ ⟨below_step hHeld.1 hb, pw_cell_below hb hHeld.2.1, pw_cell_below hb hHeld.2.2.1, pw_cell_below hb hHeld.2.2.2.1, pw_cell_below hb hHeld.2.2.2.2⟩ (fun hHeld => ?_)
          clear hK K
          refine norm_ (a' := ?_) ?_ ?_
          rotate_left
          · show Act.put _ (some 78) _ = _
            simp only [Act.put, List.setIfInBounds_toArray, List.set_cons_zero, List.set_cons_succ, i64_w, i32_w]
            rfl
          refine one_ (i := 5) (N := some 79) #[true, true, true, true, true, true, false, false, false, false, false, false, false, false, false, false, false, false] rfl rfl (by kernel_rfl) (by decide) (fun K hK => ?_)
          refine goes_ Try.func15 (by kernel_rfl) rfl #[.slice A8 vs.length c8] (by rfl) rfl rfl (by simp only [List.map_toArray, List.map_cons, List.map_nil]; rfl) ?_
          with_reducible refine (backstitchkeep3_plain.calls k A8 c8 vs false _ hC8 hc8 HV2.out).mono ?_
          rintro e w9 ⟨rfl, hb⟩
          refine ⟨_, rfl, ?_⟩
          refine hK.out _ _ ⟨below_step hHeld.1 hb, pw_cell_below hb hHeld.2.1, pw_cell_below hb hHeld.2.2.1, pw_cell_below hb hHeld.2.2.2.1, pw_cell_below hb hHeld.2.2.2.2⟩ (fun hHeld => ?_)
          clear hK K
          refine norm_ (a' := ?_) ?_ ?_
          rotate_left
          · show Act.put _ (some 79) _ = _
            simp only [Act.put, List.setIfInBounds_toArray, List.set_cons_zero, List.set_cons_succ, i64_w, i32_w]
            rfl
          refine pure_ (i := 6) (N := some 80) (v := ?_) (a' := ?_) #[true, true, true, true, true, true, true, false, false, false, false, false, false, false, false, false, false, false] rfl rfl (by kernel_rfl) (fun _ _ _ h => h) (Or.inl ⟨by rfl, ?_⟩) ?_ ?_
          rotate_left
          · intro w'
            go_simp
            with_reducible rfl
          rotate_left
          · simp only [Act.put, List.setIfInBounds_toArray, List.set_cons_zero, List.set_cons_succ, i64_w, i32_w]
            rfl
          refine pure_ (i := 7) (N := some 81) (v := undef) (a' := ?_) #[true, true, true, true, true, true, true, true, false, false, false, false, false, false, false, false, false, false] rfl rfl (by kernel_rfl) (fun _ _ _ h => h) (Or.inr ⟨by rfl, rfl⟩) ?_ ?_
          rotate_left
          · simp only [Act.put, List.setIfInBounds_toArray, List.set_cons_zero, List.set_cons_succ, i64_w, i32_w]
            rfl
          refine pure_ (i := 8) (N := some 82) (v := undef) (a' := ?_) #[true, true, true, true, true, true, true, true, true, false, false, false, false, false, false, false, false, false] rfl rfl (by kernel_rfl) (fun _ _ _ h => h) (Or.inr ⟨by rfl, rfl⟩) ?_ ?_
          rotate_left
          · simp only [Act.put, List.setIfInBounds_toArray, List.set_cons_zero, List.set_cons_succ, i64_w, i32_w]
            rfl
          refine pure_ (i := 9) (N := some 83) (v := undef) (a' := ?_) #[true, true, true, true, true, true, true, true, true, true, false, false, false, false, false, false, false, false] rfl rfl (by kernel_rfl) (fun _ _ _ h => h) (Or.inr ⟨by rfl, rfl⟩) ?_ ?_
          rotate_left
          · simp only [Act.put, List.setIfInBounds_toArray, List.set_cons_zero, List.set_cons_succ, i64_w, i32_w]
            rfl
          refine pure_ (i := 10) (N := some 84) (v := undef) (a' := ?_) #[true, true, true, true, true, true, true, true, true, true, true, false, false, false, false, false, false, false] rfl rfl (by kernel_rfl) (fun _ _ _ h => h) (Or.inr ⟨by rfl, rfl⟩) ?_ ?_
          rotate_left
          · simp only [Act.put, List.setIfInBounds_toArray, List.set_cons_zero, List.set_cons_succ, i64_w, i32_w]
            rfl
          refine pure_ (i := 11) (N := some 85) (v := undef) (a' := ?_) #[true, true, true, true, true, true, true, true, true, true, true, true, false, false, false, false, false, false] rfl rfl (by kernel_rfl) (fun _ _ _ h => h) (Or.inr ⟨by rfl, rfl⟩) ?_ ?_
          rotate_left
          · simp only [Act.put, List.setIfInBounds_toArray, List.set_cons_zero, List.set_cons_succ, i64_w, i32_w]
            rfl
          refine pure_ (i := 12) (N := some 86) (v := undef) (a' := ?_) #[true, true, true, true, true, true, true, true, true, true, true, true, true, false, false, false, false, false] rfl rfl (by kernel_rfl) (fun _ _ _ h => h) (Or.inr ⟨by rfl, rfl⟩) ?_ ?_
          rotate_left
          · simp only [Act.put, List.setIfInBounds_toArray, List.set_cons_zero, List.set_cons_succ, i64_w, i32_w]
            rfl
          refine pure_ (i := 13) (N := some 87) (v := undef) (a' := ?_) #[true, true, true, true, true, true, true, true, true, true, true, true, true, true, false, false, false, false] rfl rfl (by kernel_rfl) (fun _ _ _ h => h) (Or.inr ⟨by rfl, rfl⟩) ?_ ?_
          rotate_left
          · simp only [Act.put, List.setIfInBounds_toArray, List.set_cons_zero, List.set_cons_succ, i64_w, i32_w]
            rfl
          refine pure_ (i := 14) (N := some 88) (v := undef) (a' := ?_) #[true, true, true, true, true, true, true, true, true, true, true, true, true, true, true, false, false, false] rfl rfl (by kernel_rfl) (fun _ _ _ h => h) (Or.inr ⟨by rfl, rfl⟩) ?_ ?_
          rotate_left
          · simp only [Act.put, List.setIfInBounds_toArray, List.set_cons_zero, List.set_cons_succ, i64_w, i32_w]
            rfl
          refine pure_ (i := 15) (N := some 89) (v := undef) (a' := ?_) #[true, true, true, true, true, true, true, true, true, true, true, true, true, true, true, true, false, false] rfl rfl (by kernel_rfl) (fun _ _ _ h => h) (Or.inr ⟨by rfl, rfl⟩) ?_ ?_
          rotate_left
          · simp only [Act.put, List.setIfInBounds_toArray, List.set_cons_zero, List.set_cons_succ, i64_w, i32_w]
            rfl
          refine pure_ (i := 16) (N := some 90) (v := undef) (a' := ?_) #[true, true, true, true, true, true, true, true, true, true, true, true, true, true, true, true, true, false] rfl rfl (by kernel_rfl) (fun _ _ _ h => h) (Or.inr ⟨by rfl, rfl⟩) ?_ ?_
          rotate_left
          · simp only [Act.put, List.setIfInBounds_toArray, List.set_cons_zero, List.set_cons_succ, i64_w, i32_w]
            rfl
          refine pure_ (i := 17) (N := some 91) (v := ?_) (a' := ?_) #[true, true, true, true, true, true, true, true, true, true, true, true, true, true, true, true, true, true] rfl rfl (by kernel_rfl) (fun _ _ _ h => h) (Or.inl ⟨by rfl, ?_⟩) ?_ ?_
          rotate_left
          · intro w'
            go_simp
            with_reducible rfl
          rotate_left
          · simp only [Act.put, List.setIfInBounds_toArray, List.set_cons_zero, List.set_cons_succ, i64_w, i32_w]
            rfl
          refine done_ (by kernel_rfl) ?_
          go_wp2
          go_roundg (l.length - (i + 1))
          case measure => have := HIQ.out; have := HLT.out; omega
          case rel => exact ⟨i + 1, by first | rfl | (have := HLT.out; have := HML.out; rw [show wrap64 ((i : Int) + 1) = ((i + 1 : Nat) : Int) from by have := HSML.out; unfold wrap64; omega]), ⟨by have := HLT.out; omega, rfl⟩, ⟨below_step HB.out hHeld.1⟩⟩
      · have hdec : decide ((i : Int) < (l.length : Int)) = false := decide_eq_false (by omega)
        have hdec2 : decide (i < l.length) = false := decide_eq_false hlt
        clear hlt
        go_wp2_with fail
        refine (backstitchkeep3_worded.calls k true _ HW.out).mono ?_
        rintro e1 w5 ⟨rfl, hb⟩
        have HB5 := Aside0.mk (below_step HBW.out hb)
        clear hb
        go_wp2
        go_ret
        exact ⟨rfl, HB5.out⟩
  · have hd4 : (e == 0) = false := by simpa using he
    have hd5 : (e != 0) = true := by simp [he]
    clear he
    go_wp2_with fail
    refine (backstitchkeep3_worded.calls k true _ HW.out).mono ?_
    rintro e1 w5 ⟨rfl, hb⟩
    have HB5 := Aside0.mk (below_step HB2.out hb)
    clear hb
    go_wp2
    go_ret
    exact ⟨rfl, HB5.out⟩
end Go.Proofs.Ytkefekdphkclmaa.PC
