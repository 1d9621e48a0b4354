/- The law function GensKeeps: what it answers. -/
import Derived.Test.YtnimidkeoocchaaGenNeed
set_option linter.unusedVariables false
set_option linter.unusedSimpArgs false
namespace Go.Proofs.Ytnimidkeoocchaa.PG
open Go.RowKit Go.Proofs.YtnimidkeoocchaaW.PrintWords Go.Proofs.YtnimidkeoocchaaW.PrintLast Go.Proofs.YtnimidkeoocchaaW.PrintMore Go.Proofs.Ytnimidkeoocchaa.Hnd Go.Proofs.Ytnimidkeoocchaa.Gen Go.Proofs.Ytnimidkeoocchaa.Rch Go.Proofs.Ytnimidkeoocchaa.Ir
attribute [local go_sem] max2_int min2_int max_two min_two max_three min_three max_four min_four   -- for this text's walks alone

theorem eq_same (w : World) {A : Option Addr} {c : Nat} {x : List Int} {A' : Option Addr} {c' : Nat} (h1 : (Kd.int .i64).C w A x.length x) (hc : x.length ≤ c) (h2 : (Kd.int .i64).C w A' x.length x) (hc' : x.length ≤ c') (hl : x.length ≤ 1000000) :
    Calls Try.prog 22 #[.slice A x.length c, .slice A' x.length c'] w fun e w' => e = .returned (.bool true) ∧ Below w.heap.size w w' :=
  (eq_calls w h1 hc h2 hc' hl).mono (fun e w' h => ⟨by rw [h.1]; simp, h.2⟩)
section
variable {w0 W : World} {N : Nat} {ok : Nat → Prop} {g : Nat} {nur : Int} {l : List Th} {rm : Int → Bool} {c : Nat}
theorem young0 (h : HpO w0 W N ok g nur l rm c) (he : areL l 0 = []) : Calls Try.prog 17 #[.pointer (some ⟨g, 0, none⟩)] W fun e w' => ∃ A c, e = .returned (.slice A 0 c) ∧ Below W.heap.size W w' :=
  (h.young).mono (fun e w' h => by obtain ⟨A, c, h1, _, h2⟩ := h; rw [he] at h1; exact ⟨A, c, h1, h2⟩)
theorem barrier0 (h : HpO w0 W N ok g nur l rm c) (he : rm = fun _ => false) : Calls Try.prog 23 #[.pointer (some ⟨g, 0, none⟩)] W fun e w' => ∃ A c, e = .returned (.slice A 0 c) ∧ Below W.heap.size W w' :=
  (h.barrier).mono (fun e w' h => by
    obtain ⟨A, c, h1, _, h2⟩ := h
    have hb : barL l rm = [] := by
      rw [List.eq_nil_iff_forall_not_mem]
      intro x hx
      have := (barL_mem.1 hx).2.1
      rw [he] at this; cases this
    rw [hb] at h1; exact ⟨A, c, h1, h2⟩)
end
theorem R_C2 {W : World} {B : Nat} {ok : Nat → Prop} {A : Option Addr} {c n : Nat} {x : List (List Int)} (h : KH.R 29 W B ok (.slice A n c) x) : KH.C W A x.length x ∧ x.length ≤ c := by
  obtain ⟨h1, h2, h3⟩ := Kd.R_reads' h
  exact ⟨h3, by omega⟩
theorem graph_at (l : List Th) (n : Nat) : (graphL l).getD n [] = ((thAt l n).f0).filter posI := by
  unfold graphL
  rw [List.getD_eq_getElem?_getD, List.getElem?_map]
  by_cases hlt : n < l.length
  · rw [List.getElem?_eq_getElem hlt, thAt_eq hlt]; rfl
  · rw [List.getElem?_eq_none (by omega), thAt_none hlt]; rfl
theorem graph_len (l : List Th) (h : OkL l) (n : Nat) : ((graphL l).getD n []).length ≤ 1000 := by
  rw [graph_at]
  by_cases hlt : n < l.length
  · exact Nat.le_trans (List.length_filter_le _ _) (h.at_ hlt).1
  · rw [thAt_none hlt]; simp
def backstitchkeep3_GensKeeps.f (k : Nat) (a0 : Int) (l1 : List Deed) : Option Bool := some true
set_option maxHeartbeats 16000000 in
set_option maxRecDepth 100000 in
theorem backstitchkeep3_GensKeeps.calls (k : Nat) (a0 : Int) (A1 : Option Addr) (c1 : Nat) (l1 : List Deed) (r : Bool) (w : World) (hr1 : Kd.C k31 w A1 l1.length l1) (hc1 : l1.length ≤ c1) (h : backstitchkeep3_GensKeeps.f k a0 l1 = some r) :
    Calls Try.prog 5 #[.int .i64 a0, .slice A1 l1.length c1] w fun e w' => e = .returned (.bool r) ∧ Below w.heap.size w w' := by
  unfold backstitchkeep3_GensKeeps.f at h
  obtain rfl := Option.some.inj h
  have HR0 : Aside0 (Kd.C k31 w A1 (l1.take 80).length (l1.take 80)) := ⟨by
    have h_ := Kd.C_take hr1 (m := min l1.length 80) (by omega)
    rwa [take_minN 80 l1] at h_⟩
  have HLEN : Aside0 (((l1.take 80).length : Int) = min (l1.length : Int) 80) := ⟨by rw [List.length_take]; omega⟩
  have HCC := Aside0.mk hc1
  obtain ⟨q, hq, hq0, hq1⟩ := rest10 a0
  have HQ := Aside0.mk hq
  clear hr1 hc1 h hq
  generalize hl : l1.take 80 = l at HR0 HLEN
  have HSML : Aside0 (l.length ≤ 80) := ⟨by rw [← hl, List.length_take]; omega⟩
  clear hl
  obtain ⟨nur, hnur⟩ : ∃ nur, nur = 1 + q := ⟨_, rfl⟩
  have hw1 : wrap64 (1 + q) = nur := by unfold wrap64; omega
  have HN1 : Aside0 (1 ≤ nur) := ⟨by omega⟩
  have HN2 : Aside0 (nur ≤ 100) := ⟨by omega⟩
  clear hq0 hq1 hnur
  go_enter Try.func5, Try.ntmps5
  go_wp2_with fail
  refine (fact_calls w).mono ?_
  rintro e w1 ⟨rfl, hb1⟩
  have HB1 := Aside0.mk hb1
  clear hb1
  go_wp2_with fail
  refine (backstitchref3_Rest.calls a0 10 q w1 HQ.out).mono ?_
  rintro e w2 ⟨rfl, hd2⟩
  have HB2 := Aside0.mk (below_step HB1.out hd2.below)
  clear hd2
  go_wp2_with fail
  refine (new_calls w2 nur HN1.out HN2.out).mono ?_
  rintro e w3 ⟨rfl, hm3, hb3⟩
  have HS3 := Aside0.mk (HpO.new HN1.out hm3 HB2.out hb3)
  generalize hokd : (fun k => k = w2.heap.size + 1 ∨ k = w2.heap.size) = ok0 at HS3
  clear hm3 hb3 hokd
  generalize w2.heap.size + 1 = g at HS3 ⊢
  go_wp2_with fail
  refine (fact_calls w3).mono ?_
  rintro e w4 ⟨rfl, hb4⟩
  have HS4 := Aside0.mk (HS3.out.up hb4)
  clear hb4 HS3
  go_upto_region 6 with fail
  go_cut [39, 40, 41] (fun s42 s43 s44 wx => s42 = .slice A1 l.length c1 ∧ s43 = .int .i64 (l.length : Int) ∧ s44 = .int .i64 0 ∧ wx = w4)
  case first =>
    by_cases h20 : (80 : Int) < (l1.length : Int)
    · have e20 : l.length = 80 := by have h_ := HLEN.out; omega
      have c20 : ((80 : Int) ≤ (c1 : Int)) = True := eq_true (by have h_ := HCC.out; omega)
      have d20 : decide ((80 : Int) < (l1.length : Int)) = true := decide_eq_true h20
      go_wp2_with fail
      go_meet
      exact ⟨by rw [e20], by rw [e20]; rfl, rfl, rfl⟩
    · have e20 : l.length = l1.length := by have h_ := HLEN.out; omega
      have c20 : ((l1.length : Int) ≤ (c1 : Int)) = True := eq_true (by have h_ := HCC.out; omega)
      go_wp2_with fail
      go_meet
      exact ⟨by rw [e20], by rw [e20], rfl, rfl⟩
  case rest =>
  obtain ⟨rfl, rfl, rfl, rfl⟩ := hcut
  go_wp2_with fail
  go_loopg [41] l.length (fun kq v41 W => ∃ (i : Nat) (l' : List Th) (rm' : Int → Bool) (ok : Nat → Prop), v41 = .int .i64 (i : Int) ∧ Aside0 (i ≤ l.length ∧ kq = l.length - i) ∧ Aside0 (HpO w W W.heap.size ok g nur l' rm' i))
  case atStart => exact ⟨0, [], _, _, rfl, ⟨Nat.zero_le _, by omega⟩, HS4⟩
  case round =>
    clear HS4
    obtain ⟨i, l', rm', ok, rfl, HIQ, HS⟩ := hrel
    by_cases hlt : i < l.length
    · have hi0 : (0 : Int) ≤ (i : Int) := by omega
      have hi1 : (i : Int) < (l.length : Int) := by omega
      have hdec : decide ((i : Int) < (l.length : Int)) = true := decide_eq_true hi1
      have hdec2 : decide (i < l.length) = true := decide_eq_true hlt
      have HLT := Aside0.mk hlt
      have HC10 : Aside0 (i < 10000) := ⟨by have := HSML.out; omega⟩
      have HW64 : Aside0 (wrap64 ((i : Int) + 1) = ((i + 1 : Nat) : Int)) := ⟨by have := HSML.out; unfold wrap64; omega⟩
      obtain ⟨ad, rfl, x0, x1, x2, x3⟩ := at_deed (Kd.C_below HR0.out HS.out.low) i hlt
      generalize l.getD i z31 = x at x0 x1 x2 x3
      obtain ⟨d, a, b, n⟩ := x
      dsimp only at x0 x1 x2 x3
      have hbx := below_alloc (Below.refl wr.heap.size wr) (Obj.cells #[.int .i64 d, .int .i64 a, .int .i64 b, .int .i64 n] 31)
      have HO := Aside0.mk (HS.out.below hbx)
      have HT := Aside0.mk (blk_new wr (Obj.cells #[.int .i64 d, .int .i64 a, .int .i64 b, .int .i64 n] 31))
      have HBD := Aside0.mk HS.out.bd
      have HNX : Aside0 (wr.heap.size < (wr.alloc (Obj.cells #[.int .i64 d, .int .i64 a, .int .i64 b, .int .i64 n] 31)).heap.size) := ⟨by simp⟩
      clear hbx hlt
      go_wp2_with fail
      refine (HO.out.graph).mono ?_
      rintro e w5 ⟨AH, cH, AR, cR, rfl, hh5, hr5, hb5⟩
      have hbx := below_alloc (Below.refl w5.heap.size w5) (Obj.cells #[.slice AH (graphL l').length cH, .slice AR (heldL l').length cR] 38)
      have hb6 := below_step hb5 hbx
      have HO6 := Aside0.mk (HO.out.below hb6)
      have HT6 := Aside0.mk (blk_below HT.out hb6)
      have HG6 := Aside0.mk (blk_new w5 (Obj.cells #[.slice AH (graphL l').length cH, .slice AR (heldL l').length cR] 38))
      have HRH6 := Aside0.mk (Kd.R_below hh5 hbx)
      have HRR6 := Aside0.mk (Kd.R_below hr5 hbx)
      have HN5 : Aside0 (wr.heap.size < w5.heap.size) := ⟨Nat.lt_of_lt_of_le HNX.out hb5.size⟩
      have HDC := Aside0.mk (HO6.out.deed HC10.out d a b n)
      have HGI := Aside0.mk HS.out.gi
      have HCO : Aside0 (d = 6 ∨ d = 7 → Sim l' (doL nur l' rm' d a b n).l ∧ (doL nur l' rm' d a b n).rm = (fun _ => false) ∧ (doL nur l' rm' d a b n).err = 0 ∧ 0 ≤ (doL nur l' rm' d a b n).many ∧ areL (doL nur l' rm' d a b n).l 0 = [] ∧ (d = 7 → ∀ k, k < l'.length → ¬ Nd l' k → (thAt (doL nur l' rm' d a b n).l k).f0 = [])) := ⟨fun hd => do_coll HGI.out d a b n hd⟩
      generalize doL nur l' rm' d a b n = o at HDC HCO
      have y0 := (blk_cell HT6.out 0).trans rfl
      have y1 := (blk_cell HT6.out 1).trans rfl
      have y2 := (blk_cell HT6.out 2).trans rfl
      have y3 := (blk_cell HT6.out 3).trans rfl
      clear hh5 hr5 hb5 hbx hb6 HS HO HT
      by_cases hdd : d = 6
      · subst hdd
        obtain ⟨hsim, hrm, herr, hmany, hye, hnone⟩ := HCO.out (by decide)
        have HSIM := Aside0.mk hsim
        have HRMF := Aside0.mk hrm
        have HYE := Aside0.mk hye
        have HNONE := Aside0.mk hnone
        have HMN := Aside0.mk hmany
        have HERR := Aside0.mk herr
        clear hsim hrm herr hmany hye hnone HCO
        go_wp2_with fail
        refine HDC.out.mono ?_
        rintro e w7 ⟨rfl, hs7, hf7⟩
        have HS7 := Aside0.mk hs7
        have HT7 := Aside0.mk (hf7.obj HT6.out (fun h_ => by have := HBD.out _ h_; omega))
        have HG7 := Aside0.mk (hf7.obj HG6.out (fun h_ => by have := HBD.out _ h_; have := HN5.out; omega))
        have HRH7 := Aside0.mk (R_deed HRH6.out hf7 HBD.out (Nat.le_of_lt HNX.out))
        have HRR7 := Aside0.mk (R_deed HRR6.out hf7 HBD.out (Nat.le_of_lt HNX.out))
        generalize hok7 : (fun k => (ok k ∨ (w5.alloc (Obj.cells #[.slice AH (graphL l').length cH, .slice AR (heldL l').length cR] 38)).heap.size ≤ k) ∧ k < w7.heap.size) = ok7 at HS7
        clear hs7 hf7 y0 y1 y2 y3 hok7 HDC HO6 HT6 HG6 HRH6 HRR6
        obtain ⟨lo, rmo, many, err⟩ := o
        dsimp only at HS7 HSIM HRMF HYE HNONE HMN HERR
        obtain rfl := HERR.out
        clear HERR
        go_wp2_with fail
        refine (HS7.out.graph).mono ?_
        rintro e w8 ⟨AH2, cH2, AR2, cR2, rfl, hh8, hr8, hb8⟩
        have HGIO := Aside0.mk HS7.out.gi
        have hheld : heldL lo = heldL l' := HSIM.out.held
        have HND2 : Aside0 (rise (fromL (graphL lo) (heldL lo)) = rise (fromL (graphL l') (heldL l'))) := ⟨congrArg rise (HSIM.out.need HGI.out.ok HGIO.out.ok)⟩
        rw [hheld] at HND2 hr8 ⊢
        have hbx := below_alloc (Below.refl w8.heap.size w8) (Obj.cells #[.slice AH2 (graphL lo).length cH2, .slice AR2 (heldL l').length cR2] 38)
        have hb9 := below_step hb8 hbx
        have HS9 := Aside0.mk (HS7.out.below hb9)
        have HT9 := Aside0.mk (blk_below HT7.out hb9)
        have HG9 := Aside0.mk (blk_below HG7.out hb9)
        have HG2 := Aside0.mk (blk_new w8 (Obj.cells #[.slice AH2 (graphL lo).length cH2, .slice AR2 (heldL l').length cR2] 38))
        have HRH9 := Aside0.mk (R_C2 (Kd.R_below HRH7.out hb9))
        have HRR9 := Aside0.mk (R_C (Kd.R_below HRR7.out hb9))
        have HRH2 := Aside0.mk (R_C2 (Kd.R_below hh8 hbx))
        have HRR2 := Aside0.mk (R_C (Kd.R_below hr8 hbx))
        generalize hws : w8.alloc (Obj.cells #[.slice AH2 (graphL lo).length cH2, .slice AR2 (heldL l').length cR2] 38) = ws at HS9 HT9 HG9 HG2 HRH9 HRR9 HRH2 HRR2
        have HWS := Aside0.mk hws
        have HLL : Aside0 (l'.length ≤ 100 ∧ lo.length = l'.length) := ⟨HGI.out.len, HSIM.out.len⟩
        have HNA : Aside0 (∀ W, Below ws.heap.size ws W → Calls Try.prog 21 #[.agg #[.slice AH (graphL l').length cH, .slice AR (heldL l').length cR]] W fun e w' => ∃ A c, e = .returned (.slice A (rise (fromL (graphL l') (heldL l'))).length c) ∧ (Kd.int .i64).R 3 w' W.heap.size (fun _ => True) (.slice A (rise (fromL (graphL l') (heldL l'))).length c) (rise (fromL (graphL l') (heldL l'))) ∧ Below W.heap.size W w') := ⟨fun W hW =>
          (neededIn_calls W AH cH (graphL l') AR cR (heldL l') (Kd.C_below HRH9.out.1 hW) (Kd.C_below HRR9.out.1 hW) HRR9.out.2.1 (graphL_in HGI.out.ok) (heldL_in l') (by rw [graphL_len]; have := HLL.out.1; omega)).mono (fun e w' h => by
            obtain ⟨v0, h1, h2, h3⟩ := h
            obtain ⟨A, c, e0⟩ := Kd.R_slice h2
            subst e0
            exact ⟨A, c, h1, h2, h3⟩)⟩
        have HNB : Aside0 (∀ W, Below ws.heap.size ws W → Calls Try.prog 21 #[.agg #[.slice AH2 (graphL lo).length cH2, .slice AR2 (heldL l').length cR2]] W fun e w' => ∃ A c, e = .returned (.slice A (rise (fromL (graphL l') (heldL l'))).length c) ∧ (Kd.int .i64).R 3 w' W.heap.size (fun _ => True) (.slice A (rise (fromL (graphL l') (heldL l'))).length c) (rise (fromL (graphL l') (heldL l'))) ∧ Below W.heap.size W w') := ⟨fun W hW =>
          (neededIn_calls W AH2 cH2 (graphL lo) AR2 cR2 (heldL l') (Kd.C_below HRH2.out.1 hW) (Kd.C_below HRR2.out.1 hW) HRR2.out.2.1 (graphL_in HGIO.out.ok) (by rw [graphL_len, HLL.out.2, ← graphL_len]; exact heldL_in l') (by rw [graphL_len]; have := HLL.out; omega)).mono (fun e w' h => by
            rw [HND2.out] at h
            obtain ⟨v0, h1, h2, h3⟩ := h
            obtain ⟨A, c, e0⟩ := Kd.R_slice h2
            subst e0
            exact ⟨A, c, h1, h2, h3⟩)⟩
        have HNM : Aside0 (∀ x : Int, x ∈ rise (fromL (graphL l') (heldL l')) ↔ (0 ≤ x ∧ x < (l'.length : Int)) ∧ Nd l' x.toNat) := ⟨fun x => by
          rw [mem_rise]
          have hl_ := needL_len l'
          unfold needL at hl_
          rw [hl_]
          constructor
          · rintro ⟨h1, h2⟩
            exact ⟨h1, (need_iff HGI.out.ok (by omega)).1 h2⟩
          · rintro ⟨h1, h2⟩
            exact ⟨h1, (need_iff HGI.out.ok (by omega)).2 h2⟩⟩
        have HNZ : Aside0 ((rise (fromL (graphL l') (heldL l'))).length ≤ 100) := ⟨by
          have h_ := rise_length (fromL (graphL l') (heldL l'))
          rw [fromL_length, graphL_len] at h_
          have := HLL.out.1
          omega⟩
        have HGR : Aside0 (∀ k, Nd l' k → (graphL lo).getD k [] = (graphL l').getD k []) := ⟨fun k hk => HSIM.out.graph hk⟩
        have HGZ : Aside0 (∀ k, ((graphL l').getD k []).length ≤ 1000 ∧ ((graphL lo).getD k []).length ≤ 1000) := ⟨fun k => ⟨graph_len l' HGI.out.ok k, graph_len lo HGIO.out.ok k⟩⟩
        have HGN : Aside0 ((6 : Int) = 7 → ∀ k : Nat, k < l'.length → ¬ Nd l' k → (graphL lo).getD k [] = []) := ⟨fun e k hk hn => by rw [graph_at, HNONE.out (by first | exact e | trivial) k hk hn]; rfl⟩
        have HG1L : Aside0 ((graphL l').length = l'.length) := ⟨graphL_len l'⟩
        have HG2L : Aside0 ((graphL lo).length = l'.length) := ⟨by rw [graphL_len, HLL.out.2]⟩
        have HHZ : Aside0 ((heldL l').length ≤ 1000) := ⟨by have h_ := heldTo_len l' l'.length; unfold heldL; have := HLL.out.1; omega⟩
        have HYO := Aside0.mk (fun (W : World) (hW : Below ws.heap.size ws W) => young0 (HS9.out.below hW) HYE.out)
        have HBO := Aside0.mk (fun (W : World) (hW : Below ws.heap.size ws W) => barrier0 (HS9.out.below hW) HRMF.out)
        generalize rise (fromL (graphL l') (heldL l')) = nd at HNA HNB HNM HNZ
        generalize heldL l' = hl at *
        generalize graphL l' = gl at *
        generalize graphL lo = gl2 at *
        have HEQR := Aside0.mk (fun (W : World) (hW : Below ws.heap.size ws W) => eq_same W (Kd.C_below HRR9.out.1 hW) HRR9.out.2.1 (Kd.C_below HRR2.out.1 hW) HRR2.out.2.1 (by have := HHZ.out; omega))
        have g0 := (blk_cell HG9.out 0).trans rfl
        have g1 := (blk_cell HG9.out 1).trans rfl
        have i0 := (blk_cell HG2.out 0).trans rfl
        have i1 := (blk_cell HG2.out 1).trans rfl
        have hmn : decide (many < 0) = false := decide_eq_false (by have := HMN.out; omega)
        clear hh8 hr8 hbx hb8 hb9 hheld hws HND2 HG7 HT7 HRH7 HRR7
        go_wp2_with fail
        rw [HWS.out]
        refine start_ (n := 34) (S := fun w' => Below ws.heap.size ws w' ∧ w'.cell? ⟨w5.heap.size, 0, none⟩ = some (.slice AH gl.length cH) ∧ w'.cell? ⟨w5.heap.size, 1, none⟩ = some (.slice AR hl.length cR) ∧ w'.cell? ⟨w8.heap.size, 0, none⟩ = some (.slice AH2 gl2.length cH2) ∧ w'.cell? ⟨w8.heap.size, 1, none⟩ = some (.slice AR2 hl.length cR2)) (ds := []) #[false, false, false, false, false, false, false, false, false, false, false, false, false, false, false, false, false, false, false, false, false, false, false, false, false, false, false, false, false, false, false, false, false, false] (by kernel_rfl) rfl rfl ⟨(below_drew (Below.refl _ _)), g0, g1, i0, i1⟩ (fun hHeld => ?_)
        generalize ws.drew = w9 at hHeld ⊢
        refine pure_ (i := 0) (N := some 66) (v := ?_) (a' := ?_) #[true, false, false, false, false, false, false, false, false, false, false, false, false, false, false, false, false, false, false, false, false, false, false, false, false, false, false, false, false, false, false, false, false, false] rfl rfl (by kernel_rfl) (fun _ _ _ h => h) (Or.inl ⟨by rfl, ?_⟩) ?_ ?_
        rotate_left
        · intro w'
          go_simp
          with_reducible rfl
        rotate_left
        · simp only [Act.put, List.setIfInBounds_toArray, List.set_cons_zero, List.set_cons_succ, i64_w, i32_w]
          rfl
        refine pure_ (i := 1) (N := some 67) (v := ?_) (a' := ?_) #[true, true, false, false, false, false, false, false, false, false, false, false, false, false, false, false, false, false, false, false, false, false, false, false, false, false, false, false, false, false, false, false, false, false] rfl rfl (by kernel_rfl) (fun _ _ _ h => h) (Or.inl ⟨by rfl, ?_⟩) ?_ ?_
        rotate_left
        · intro w'
          go_simp
          with_reducible rfl
        rotate_left
        · simp only [Act.put, List.setIfInBounds_toArray, List.set_cons_zero, List.set_cons_succ, i64_w, i32_w]
          rfl
        refine pure_ (i := 2) (N := some 68) (v := ?_) (a' := ?_) #[true, true, true, false, false, false, false, false, false, false, false, false, false, false, false, false, false, false, false, false, false, false, false, false, false, false, false, false, false, false, false, false, false, false] rfl rfl (by kernel_rfl) (fun _ _ _ h => h) (Or.inl ⟨by rfl, ?_⟩) ?_ ?_
        rotate_left
        · intro w'
          go_simp
          with_reducible rfl
        rotate_left
        · simp only [Act.put, List.setIfInBounds_toArray, List.set_cons_zero, List.set_cons_succ, i64_w, i32_w]
          rfl
        refine pure_ (i := 3) (N := some 69) (v := ?_) (a' := ?_) #[true, true, true, true, false, false, false, false, false, false, false, false, false, false, false, false, false, false, false, false, false, false, false, false, false, false, false, false, false, false, false, false, false, false] rfl rfl (by kernel_rfl) (fun _ _ _ h => h) (Or.inl ⟨by rfl, ?_⟩) ?_ ?_
        rotate_left
        · intro w'
          go_simp
          with_reducible rfl
        rotate_left
        · simp only [Act.put, List.setIfInBounds_toArray, List.set_cons_zero, List.set_cons_succ, i64_w, i32_w]
          rfl
        refine pure_ (i := 4) (N := some 70) (v := ?_) (a' := ?_) #[true, true, true, true, true, false, false, false, false, false, false, false, false, false, false, false, false, false, false, false, false, false, false, false, false, false, false, false, false, false, false, false, false, false] rfl rfl (by kernel_rfl) (fun _ _ _ h => h) (Or.inl ⟨by rfl, ?_⟩) ?_ ?_
        rotate_left
        · intro w'
          go_simp
          with_reducible rfl
        rotate_left
        · simp only [Act.put, List.setIfInBounds_toArray, List.set_cons_zero, List.set_cons_succ, i64_w, i32_w]
          rfl
        refine pure_ (i := 5) (N := some 71) (v := ?_) (a' := ?_) #[true, true, true, true, true, true, false, false, false, false, false, false, false, false, false, false, false, false, false, false, false, false, false, false, false, false, false, false, false, false, false, false, false, false] rfl rfl (by kernel_rfl) (fun _ _ _ h => h) (Or.inl ⟨by rfl, ?_⟩) ?_ ?_
        rotate_left
        · intro w'
          go_simp
          with_reducible rfl
        rotate_left
        · simp only [Act.put, List.setIfInBounds_toArray, List.set_cons_zero, List.set_cons_succ, i64_w, i32_w]
          rfl
        refine pure_ (i := 6) (N := some 72) (v := ?_) (a' := ?_) #[true, true, true, true, true, true, true, false, false, false, false, false, false, false, false, false, false, false, false, false, false, false, false, false, false, false, false, false, false, false, false, false, false, false] rfl rfl (by kernel_rfl) (fun _ _ _ h => h) (Or.inl ⟨by rfl, ?_⟩) ?_ ?_
        rotate_left
        · intro w'
          go_simp
          with_reducible rfl
        rotate_left
        · simp only [Act.put, List.setIfInBounds_toArray, List.set_cons_zero, List.set_cons_succ, i64_w, i32_w]
          rfl
        refine take_ (i := 7) (N := some 73) (v := ?_) (a' := ?_) #[true, true, true, true, true, true, true, true, false, false, false, false, false, false, false, false, false, false, false, false, false, false, false, false, false, false, false, false, false, false, false, false, false, false] rfl rfl (by kernel_rfl) (fun _ _ _ h => h) (Or.inl ⟨by rfl, ?_⟩) hHeld ?_ ?_
        rotate_left
        · rintro w' ⟨s0, s1, s2, s3, s4⟩
          go_simp
          with_reducible rfl
        rotate_left
        · simp only [Act.put, List.setIfInBounds_toArray, List.set_cons_zero, List.set_cons_succ, i64_w, i32_w]
          rfl
        refine take_ (i := 9) (N := some 75) (v := ?_) (a' := ?_) #[true, true, true, true, true, true, true, true, false, true, false, false, false, false, false, false, false, false, false, false, false, false, false, false, false, false, false, false, false, false, false, false, false, false] rfl rfl (by kernel_rfl) (fun _ _ _ h => h) (Or.inl ⟨by rfl, ?_⟩) hHeld ?_ ?_
        rotate_left
        · rintro w' ⟨s0, s1, s2, s3, s4⟩
          go_simp
          with_reducible rfl
        rotate_left
        · simp only [Act.put, List.setIfInBounds_toArray, List.set_cons_zero, List.set_cons_succ, i64_w, i32_w]
          rfl
        refine one_ (i := 8) (N := some 74) #[true, true, true, true, true, true, true, true, true, true, false, false, false, false, false, false, false, false, false, false, false, false, false, false, false, false, false, false, false, false, false, false, false, false] rfl rfl (by kernel_rfl) (by decide) (fun K hK => ?_)
        refine goes_ Try.func21 (by kernel_rfl) rfl #[.agg #[.slice AH gl.length cH, .slice AR hl.length cR]] (by rfl) rfl rfl (by simp only [List.map_toArray, List.map_cons, List.map_nil]; rfl) ?_
        with_reducible refine (HNA.out _ hHeld.1).mono ?_
        rintro e w10 ⟨A8, c8, rfl, hr8, hb8⟩
        refine ⟨_, rfl, ?_⟩
        have HR8 := Aside0.mk (R_C hr8)
        clear hr8
        refine hK.out _ _ ⟨below_step hHeld.1 hb8, pw_cell_below hb8 hHeld.2.1, pw_cell_below hb8 hHeld.2.2.1, pw_cell_below hb8 hHeld.2.2.2.1, pw_cell_below hb8 hHeld.2.2.2.2⟩ (fun hHeld => ?_)
        clear hK K
        refine norm_ (a' := ?_) ?_ ?_
        rotate_left
        · show Act.put _ (some 74) _ = _
          simp only [Act.put, List.setIfInBounds_toArray, List.set_cons_zero, List.set_cons_succ, i64_w, i32_w]
          rfl
        refine one_ (i := 10) (N := some 76) #[true, true, true, true, true, true, true, true, true, true, true, false, false, false, false, false, false, false, false, false, false, false, false, false, false, false, false, false, false, false, false, false, false, false] rfl rfl (by kernel_rfl) (by decide) (fun K hK => ?_)
        refine goes_ Try.func21 (by kernel_rfl) rfl #[.agg #[.slice AH2 gl2.length cH2, .slice AR2 hl.length cR2]] (by rfl) rfl rfl (by simp only [List.map_toArray, List.map_cons, List.map_nil]; rfl) ?_
        with_reducible refine (HNB.out _ hHeld.1).mono ?_
        rintro e w11 ⟨A10, c10, rfl, hr10, hb10⟩
        refine ⟨_, rfl, ?_⟩
        have HR10 := Aside0.mk (R_C hr10)
        have HR8b := Aside0.mk (And.intro (Kd.C_below HR8.out.1 hb10) HR8.out.2.1)
        clear hr10
        refine hK.out _ _ ⟨below_step hHeld.1 hb10, pw_cell_below hb10 hHeld.2.1, pw_cell_below hb10 hHeld.2.2.1, pw_cell_below hb10 hHeld.2.2.2.1, pw_cell_below hb10 hHeld.2.2.2.2⟩ (fun hHeld => ?_)
        clear hK K
        refine norm_ (a' := ?_) ?_ ?_
        rotate_left
        · show Act.put _ (some 76) _ = _
          simp only [Act.put, List.setIfInBounds_toArray, List.set_cons_zero, List.set_cons_succ, i64_w, i32_w]
          rfl
        refine one_ (i := 11) (N := some 77) #[true, true, true, true, true, true, true, true, true, true, true, true, false, false, false, false, false, false, false, false, false, false, false, false, false, false, false, false, false, false, false, false, false, false] rfl rfl (by kernel_rfl) (by decide) (fun K hK => ?_)
        refine goes_ Try.func22 (by kernel_rfl) rfl #[.slice A8 nd.length c8, .slice A10 nd.length c10] (by rfl) rfl rfl (by simp only [List.map_toArray, List.map_cons, List.map_nil]; rfl) ?_
        with_reducible refine (eq_same _ HR8b.out.1 HR8b.out.2 HR10.out.1 HR10.out.2.1 (Nat.le_trans HNZ.out (by decide))).mono ?_
        rintro e w12 ⟨rfl, hb11⟩
        refine ⟨_, rfl, ?_⟩
        refine hK.out _ _ ⟨below_step hHeld.1 hb11, pw_cell_below hb11 hHeld.2.1, pw_cell_below hb11 hHeld.2.2.1, pw_cell_below hb11 hHeld.2.2.2.1, pw_cell_below hb11 hHeld.2.2.2.2⟩ (fun hHeld => ?_)
        clear hK K
        refine norm_ (a' := ?_) ?_ ?_
        rotate_left
        · show Act.put _ (some 77) _ = _
          simp only [Act.put, List.setIfInBounds_toArray, List.set_cons_zero, List.set_cons_succ, i64_w, i32_w]
          rfl
        refine pure_ (i := 12) (N := some 78) (v := ?_) (a' := ?_) #[true, true, true, true, true, true, true, true, true, true, true, true, true, false, false, false, false, false, false, false, false, false, false, false, false, false, false, false, false, false, false, false, false, false] rfl rfl (by kernel_rfl) (fun _ _ _ h => h) (Or.inl ⟨by rfl, ?_⟩) ?_ ?_
        rotate_left
        · intro w'
          go_simp
          with_reducible rfl
        rotate_left
        · simp only [Act.put, List.setIfInBounds_toArray, List.set_cons_zero, List.set_cons_succ, i64_w, i32_w]
          rfl
        refine pure_ (i := 13) (N := some 79) (v := ?_) (a' := ?_) #[true, true, true, true, true, true, true, true, true, true, true, true, true, true, false, false, false, false, false, false, false, false, false, false, false, false, false, false, false, false, false, false, false, false] rfl rfl (by kernel_rfl) (fun _ _ _ h => h) (Or.inl ⟨by rfl, ?_⟩) ?_ ?_
        rotate_left
        · intro w'
          go_simp
          with_reducible rfl
        rotate_left
        · simp only [Act.put, List.setIfInBounds_toArray, List.set_cons_zero, List.set_cons_succ, i64_w, i32_w]
          rfl
        refine pure_ (i := 14) (N := some 80) (v := ?_) (a' := ?_) #[true, true, true, true, true, true, true, true, true, true, true, true, true, true, true, false, false, false, false, false, false, false, false, false, false, false, false, false, false, false, false, false, false, false] rfl rfl (by kernel_rfl) (fun _ _ _ h => h) (Or.inl ⟨by rfl, ?_⟩) ?_ ?_
        rotate_left
        · intro w'
          go_simp
          with_reducible rfl
        rotate_left
        · simp only [Act.put, List.setIfInBounds_toArray, List.set_cons_zero, List.set_cons_succ, i64_w, i32_w]
          rfl
        refine pure_ (i := 15) (N := some 81) (v := ?_) (a' := ?_) #[true, true, true, true, true, true, true, true, true, true, true, true, true, true, true, true, false, false, false, false, false, false, false, false, false, false, false, false, false, false, false, false, false, false] rfl rfl (by kernel_rfl) (fun _ _ _ h => h) (Or.inl ⟨by rfl, ?_⟩) ?_ ?_
        rotate_left
        · intro w'
          go_simp
          with_reducible rfl
        rotate_left
        · simp only [Act.put, List.setIfInBounds_toArray, List.set_cons_zero, List.set_cons_succ, i64_w, i32_w]
          rfl
        refine pure_ (i := 17) (N := some 83) (v := ?_) (a' := ?_) #[true, true, true, true, true, true, true, true, true, true, true, true, true, true, true, true, false, true, false, false, false, false, false, false, false, false, false, false, false, false, false, false, false, false] rfl rfl (by kernel_rfl) (fun _ _ _ h => h) (Or.inl ⟨by rfl, ?_⟩) ?_ ?_
        rotate_left
        · intro w'
          go_simp
          with_reducible rfl
        rotate_left
        · simp only [Act.put, List.setIfInBounds_toArray, List.set_cons_zero, List.set_cons_succ, i64_w, i32_w]
          rfl
        refine take_ (i := 16) (N := some 82) (v := ?_) (a' := ?_) #[true, true, true, true, true, true, true, true, true, true, true, true, true, true, true, true, true, true, false, false, false, false, false, false, false, false, false, false, false, false, false, false, false, false] rfl rfl (by kernel_rfl) (fun _ _ _ h => h) (Or.inl ⟨by rfl, ?_⟩) hHeld ?_ ?_
        rotate_left
        · rintro w' ⟨s0, s1, s2, s3, s4⟩
          go_simp
          with_reducible rfl
        rotate_left
        · simp only [Act.put, List.setIfInBounds_toArray, List.set_cons_zero, List.set_cons_succ, i64_w, i32_w]
          rfl
        refine take_ (i := 18) (N := some 84) (v := ?_) (a' := ?_) #[true, true, true, true, true, true, true, true, true, true, true, true, true, true, true, true, true, true, true, false, false, false, false, false, false, false, false, false, false, false, false, false, false, false] rfl rfl (by kernel_rfl) (fun _ _ _ h => h) (Or.inl ⟨by rfl, ?_⟩) hHeld ?_ ?_
        rotate_left
        · rintro w' ⟨s0, s1, s2, s3, s4⟩
          go_simp
          with_reducible rfl
        rotate_left
        · simp only [Act.put, List.setIfInBounds_toArray, List.set_cons_zero, List.set_cons_succ, i64_w, i32_w]
          rfl
        refine one_ (i := 19) (N := some 85) #[true, true, true, true, true, true, true, true, true, true, true, true, true, true, true, true, true, true, true, true, false, false, false, false, false, false, false, false, false, false, false, false, false, false] rfl rfl (by kernel_rfl) (by decide) (fun K hK => ?_)
        refine goes_ Try.func22 (by kernel_rfl) rfl #[.slice AR hl.length cR, .slice AR2 hl.length cR2] (by rfl) rfl rfl (by simp only [List.map_toArray, List.map_cons, List.map_nil]; rfl) ?_
        with_reducible refine (HEQR.out _ hHeld.1).mono ?_
        rintro e w13 ⟨rfl, hb19⟩
        refine ⟨_, rfl, ?_⟩
        refine hK.out _ _ ⟨below_step hHeld.1 hb19, pw_cell_below hb19 hHeld.2.1, pw_cell_below hb19 hHeld.2.2.1, pw_cell_below hb19 hHeld.2.2.2.1, pw_cell_below hb19 hHeld.2.2.2.2⟩ (fun hHeld => ?_)
        clear hK K
        refine norm_ (a' := ?_) ?_ ?_
        rotate_left
        · show Act.put _ (some 85) _ = _
          simp only [Act.put, List.setIfInBounds_toArray, List.set_cons_zero, List.set_cons_succ, i64_w, i32_w]
          rfl
        refine pure_ (i := 20) (N := some 86) (v := ?_) (a' := ?_) #[true, true, true, true, true, true, true, true, true, true, true, true, true, true, true, true, true, true, true, true, true, false, false, false, false, false, false, false, false, false, false, false, false, false] rfl rfl (by kernel_rfl) (fun _ _ _ h => h) (Or.inl ⟨by rfl, ?_⟩) ?_ ?_
        rotate_left
        · intro w'
          go_simp
          with_reducible rfl
        rotate_left
        · simp only [Act.put, List.setIfInBounds_toArray, List.set_cons_zero, List.set_cons_succ, i64_w, i32_w]
          rfl
        refine pure_ (i := 21) (N := some 87) (v := ?_) (a' := ?_) #[true, true, true, true, true, true, true, true, true, true, true, true, true, true, true, true, true, true, true, true, true, true, false, false, false, false, false, false, false, false, false, false, false, false] rfl rfl (by kernel_rfl) (fun _ _ _ h => h) (Or.inl ⟨by rfl, ?_⟩) ?_ ?_
        rotate_left
        · intro w'
          go_simp
          with_reducible rfl
        rotate_left
        · simp only [Act.put, List.setIfInBounds_toArray, List.set_cons_zero, List.set_cons_succ, i64_w, i32_w]
          rfl
        refine pure_ (i := 22) (N := some 88) (v := ?_) (a' := ?_) #[true, true, true, true, true, true, true, true, true, true, true, true, true, true, true, true, true, true, true, true, true, true, true, false, false, false, false, false, false, false, false, false, false, false] rfl rfl (by kernel_rfl) (fun _ _ _ h => h) (Or.inl ⟨by rfl, ?_⟩) ?_ ?_
        rotate_left
        · intro w'
          go_simp
          with_reducible rfl
        rotate_left
        · simp only [Act.put, List.setIfInBounds_toArray, List.set_cons_zero, List.set_cons_succ, i64_w, i32_w]
          rfl
        refine pure_ (i := 23) (N := some 89) (v := ?_) (a' := ?_) #[true, true, true, true, true, true, true, true, true, true, true, true, true, true, true, true, true, true, true, true, true, true, true, true, false, false, false, false, false, false, false, false, false, false] rfl rfl (by kernel_rfl) (fun _ _ _ h => h) (Or.inl ⟨by rfl, ?_⟩) ?_ ?_
        rotate_left
        · intro w'
          go_simp
          with_reducible rfl
        rotate_left
        · simp only [Act.put, List.setIfInBounds_toArray, List.set_cons_zero, List.set_cons_succ, i64_w, i32_w]
          rfl
        refine one_ (i := 24) (N := some 90) #[true, true, true, true, true, true, true, true, true, true, true, true, true, true, true, true, true, true, true, true, true, true, true, true, true, false, false, false, false, false, false, false, false, false] rfl rfl (by kernel_rfl) (by decide) (fun K hK => ?_)
        refine goes_ Try.func17 (by kernel_rfl) rfl #[.pointer (some ⟨g, 0, none⟩)] (by rfl) rfl rfl (by simp only [List.map_toArray, List.map_cons, List.map_nil]; rfl) ?_
        with_reducible refine (HYO.out _ hHeld.1).mono ?_
        rintro e w14 ⟨A24, c24, rfl, hb24⟩
        refine ⟨_, rfl, ?_⟩
        refine hK.out _ _ ⟨below_step hHeld.1 hb24, pw_cell_below hb24 hHeld.2.1, pw_cell_below hb24 hHeld.2.2.1, pw_cell_below hb24 hHeld.2.2.2.1, pw_cell_below hb24 hHeld.2.2.2.2⟩ (fun hHeld => ?_)
        clear hK K
        refine norm_ (a' := ?_) ?_ ?_
        rotate_left
        · show Act.put _ (some 90) _ = _
          simp only [Act.put, List.setIfInBounds_toArray, List.set_cons_zero, List.set_cons_succ, i64_w, i32_w]
          rfl
        refine pure_ (i := 25) (N := some 91) (v := ?_) (a' := ?_) #[true, true, true, true, true, true, true, true, true, true, true, true, true, true, true, true, true, true, true, true, true, true, true, true, true, true, false, false, false, false, false, false, false, false] rfl rfl (by kernel_rfl) (fun _ _ _ h => h) (Or.inl ⟨by rfl, ?_⟩) ?_ ?_
        rotate_left
        · intro w'
          go_simp
          with_reducible rfl
        rotate_left
        · simp only [Act.put, List.setIfInBounds_toArray, List.set_cons_zero, List.set_cons_succ, i64_w, i32_w]
          rfl
        refine pure_ (i := 26) (N := some 92) (v := ?_) (a' := ?_) #[true, true, true, true, true, true, true, true, true, true, true, true, true, true, true, true, true, true, true, true, true, true, true, true, true, true, true, false, false, false, false, false, false, false] rfl rfl (by kernel_rfl) (fun _ _ _ h => h) (Or.inl ⟨by rfl, ?_⟩) ?_ ?_
        rotate_left
        · intro w'
          go_simp
          with_reducible rfl
        rotate_left
        · simp only [Act.put, List.setIfInBounds_toArray, List.set_cons_zero, List.set_cons_succ, i64_w, i32_w]
          rfl
        refine pure_ (i := 27) (N := some 93) (v := ?_) (a' := ?_) #[true, true, true, true, true, true, true, true, true, true, true, true, true, true, true, true, true, true, true, true, true, true, true, true, true, true, true, true, false, false, false, false, false, false] rfl rfl (by kernel_rfl) (fun _ _ _ h => h) (Or.inl ⟨by rfl, ?_⟩) ?_ ?_
        rotate_left
        · intro w'
          go_simp
          with_reducible rfl
        rotate_left
        · simp only [Act.put, List.setIfInBounds_toArray, List.set_cons_zero, List.set_cons_succ, i64_w, i32_w]
          rfl
        refine pure_ (i := 28) (N := some 94) (v := ?_) (a' := ?_) #[true, true, true, true, true, true, true, true, true, true, true, true, true, true, true, true, true, true, true, true, true, true, true, true, true, true, true, true, true, false, false, false, false, false] rfl rfl (by kernel_rfl) (fun _ _ _ h => h) (Or.inl ⟨by rfl, ?_⟩) ?_ ?_
        rotate_left
        · intro w'
          go_simp
          with_reducible rfl
        rotate_left
        · simp only [Act.put, List.setIfInBounds_toArray, List.set_cons_zero, List.set_cons_succ, i64_w, i32_w]
          rfl
        refine pure_ (i := 29) (N := some 95) (v := ?_) (a' := ?_) #[true, true, true, true, true, true, true, true, true, true, true, true, true, true, true, true, true, true, true, true, true, true, true, true, true, true, true, true, true, true, false, false, false, false] rfl rfl (by kernel_rfl) (fun _ _ _ h => h) (Or.inl ⟨by rfl, ?_⟩) ?_ ?_
        rotate_left
        · intro w'
          go_simp
          with_reducible rfl
        rotate_left
        · simp only [Act.put, List.setIfInBounds_toArray, List.set_cons_zero, List.set_cons_succ, i64_w, i32_w]
          rfl
        refine one_ (i := 30) (N := some 96) #[true, true, true, true, true, true, true, true, true, true, true, true, true, true, true, true, true, true, true, true, true, true, true, true, true, true, true, true, true, true, true, false, false, false] rfl rfl (by kernel_rfl) (by decide) (fun K hK => ?_)
        refine goes_ Try.func23 (by kernel_rfl) rfl #[.pointer (some ⟨g, 0, none⟩)] (by rfl) rfl rfl (by simp only [List.map_toArray, List.map_cons, List.map_nil]; rfl) ?_
        with_reducible refine (HBO.out _ hHeld.1).mono ?_
        rintro e w15 ⟨A30, c30, rfl, hb30⟩
        refine ⟨_, rfl, ?_⟩
        refine hK.out _ _ ⟨below_step hHeld.1 hb30, pw_cell_below hb30 hHeld.2.1, pw_cell_below hb30 hHeld.2.2.1, pw_cell_below hb30 hHeld.2.2.2.1, pw_cell_below hb30 hHeld.2.2.2.2⟩ (fun hHeld => ?_)
        clear hK K
        refine norm_ (a' := ?_) ?_ ?_
        rotate_left
        · show Act.put _ (some 96) _ = _
          simp only [Act.put, List.setIfInBounds_toArray, List.set_cons_zero, List.set_cons_succ, i64_w, i32_w]
          rfl
        refine pure_ (i := 31) (N := some 97) (v := ?_) (a' := ?_) #[true, true, true, true, true, true, true, true, true, true, true, true, true, true, true, true, true, true, true, true, true, true, true, true, true, true, true, true, true, true, true, true, false, false] rfl rfl (by kernel_rfl) (fun _ _ _ h => h) (Or.inl ⟨by rfl, ?_⟩) ?_ ?_
        rotate_left
        · intro w'
          go_simp
          with_reducible rfl
        rotate_left
        · simp only [Act.put, List.setIfInBounds_toArray, List.set_cons_zero, List.set_cons_succ, i64_w, i32_w]
          rfl
        refine pure_ (i := 32) (N := some 98) (v := ?_) (a' := ?_) #[true, true, true, true, true, true, true, true, true, true, true, true, true, true, true, true, true, true, true, true, true, true, true, true, true, true, true, true, true, true, true, true, true, false] rfl rfl (by kernel_rfl) (fun _ _ _ h => h) (Or.inl ⟨by rfl, ?_⟩) ?_ ?_
        rotate_left
        · intro w'
          go_simp
          with_reducible rfl
        rotate_left
        · simp only [Act.put, List.setIfInBounds_toArray, List.set_cons_zero, List.set_cons_succ, i64_w, i32_w]
          rfl
        refine pure_ (i := 33) (N := some 99) (v := ?_) (a' := ?_) #[true, true, true, true, true, true, true, true, true, true, true, true, true, true, true, true, true, true, true, true, true, true, true, true, true, true, true, true, true, true, true, true, true, true] rfl rfl (by kernel_rfl) (fun _ _ _ h => h) (Or.inl ⟨by rfl, ?_⟩) ?_ ?_
        rotate_left
        · intro w'
          go_simp
          with_reducible rfl
        rotate_left
        · simp only [Act.put, List.setIfInBounds_toArray, List.set_cons_zero, List.set_cons_succ, i64_w, i32_w]
          rfl
        refine done_ (by kernel_rfl) ?_
        have HB15 : Aside0 (Below ws.heap.size ws w15) := ⟨hHeld.1⟩
        clear hHeld hb8 hb10 hb11 hb19 hb24 hb30 g0 g1 i0 i1 HWS HR8 HR8b HR10
        have i0 := (blk_cell (blk_below HG2.out HB15.out) 0).trans rfl
        have i1 := (blk_cell (blk_below HG2.out HB15.out) 1).trans rfl
        go_wp2_with fail
        refine (HNB.out _ HB15.out).mono ?_
        rintro e w16 ⟨A16, c16, rfl, hr16, hb16⟩
        have HR16 := Aside0.mk (R_C hr16)
        have HB16 := Aside0.mk (below_step HB15.out hb16)
        clear hr16 hb16 i0 i1 HB15
        go_wp2_with fail
        obtain ⟨wo, rfl⟩ : ∃ wo, wo = wr := ⟨wr, rfl⟩
        go_loopg [103] nd.length (fun kq v103 W => ∃ (j : Nat), v103 = .int .i64 (j : Int) ∧ Aside0 (j ≤ nd.length ∧ kq = nd.length - j) ∧ Aside0 (Below w16.heap.size w16 W))
        case atStart => exact ⟨0, rfl, ⟨Nat.zero_le _, by omega⟩, ⟨Below.refl _ _⟩⟩
        case round =>
          obtain ⟨j, rfl, HJQ, HBJ⟩ := hrel
          have HBW := Aside0.mk (below_step HB16.out HBJ.out)
          by_cases hjt : j < nd.length
          · have hj0 : (0 : Int) ≤ (j : Int) := by omega
            have hj1 : (j : Int) < (nd.length : Int) := by omega
            have hdecj : decide ((j : Int) < (nd.length : Int)) = true := decide_eq_true hj1
            have hdecj2 : decide (j < nd.length) = true := decide_eq_true hjt
            have HJT := Aside0.mk hjt
            have HJ64 : Aside0 (wrap64 ((j : Int) + 1) = ((j + 1 : Nat) : Int)) := ⟨by have h1_ := HJT.out; have h2_ := HNZ.out; unfold wrap64; omega⟩
            obtain ⟨adr, e, hx⟩ := Kd.at_int (Kd.C_below HR16.out.1 HBJ.out) (j : Int) hj0 hj1
            rw [Int.toNat_natCast, rdI _ _ hjt] at hx
            subst e
            have hnx := (HNM.out nd[j]).1 (List.getElem_mem hjt)
            generalize nd[j] = x at hx hnx
            obtain ⟨m, rfl⟩ : ∃ m : Nat, x = m := ⟨x.toNat, by omega⟩
            rw [Int.toNat_natCast] at hnx
            have hm1 : (m : Int) < (gl.length : Int) := by have := HG1L.out; omega
            have hm2 : (m : Int) < (gl2.length : Int) := by have := HG2L.out; omega
            have hm0 : (0 : Int) ≤ (m : Int) := by omega
            obtain ⟨adH, B, cB, rfl, z0, hzc, hzC⟩ := at_row (Kd.C_below HRH9.out.1 HBW.out) m (by omega)
            obtain ⟨adH2, B2, cB2, rfl, z2, hzc2, hzC2⟩ := at_row (Kd.C_below HRH2.out.1 HBW.out) m (by omega)
            have HZ := Aside0.mk (And.intro hzC hzc)
            rw [HGR.out m hnx.2] at z2 hzc2 hzC2
            have HZ2 := Aside0.mk (And.intro hzC2 hzc2)
            have HZL := Aside0.mk (HGZ.out m).1
            generalize gl.getD m [] = row at z0 z2 HZ HZ2 HZL
            have g0 := (blk_cell (blk_below HG9.out HBW.out) 0).trans rfl
            have i0 := (blk_cell (blk_below HG2.out HBW.out) 0).trans rfl
            clear hzc hzC hzc2 hzC2 hjt hnx
            go_wp2_with fail
            refine start_ (n := 12) (S := fun w' => Below wr.heap.size wr w' ∧ w'.cell? ⟨w5.heap.size, 0, none⟩ = some (.slice (some adH) gl.length cH) ∧ w'.cell? (adH.add m) = some (.slice B row.length cB) ∧ w'.cell? ⟨w8.heap.size, 0, none⟩ = some (.slice (some adH2) gl2.length cH2) ∧ w'.cell? (adH2.add m) = some (.slice B2 row.length cB2)) (ds := []) #[false, false, false, false, false, false, false, false, false, false, false, false] (by kernel_rfl) rfl rfl ⟨(below_drew (Below.refl _ _)), g0, z0, i0, z2⟩ (fun hHeld => ?_)
            generalize wr.drew = w19 at hHeld ⊢
            refine pure_ (i := 0) (N := some 107) (v := ?_) (a' := ?_) #[true, false, false, false, false, false, false, false, false, false, false, false] rfl rfl (by kernel_rfl) (fun _ _ _ h => h) (Or.inl ⟨by rfl, ?_⟩) ?_ ?_
            rotate_left
            · intro w'
              go_simp
              with_reducible rfl
            rotate_left
            · simp only [Act.put, List.setIfInBounds_toArray, List.set_cons_zero, List.set_cons_succ, i64_w, i32_w]
              rfl
            refine pure_ (i := 2) (N := some 109) (v := ?_) (a' := ?_) #[true, false, true, false, false, false, false, false, false, false, false, false] rfl rfl (by kernel_rfl) (fun _ _ _ h => h) (Or.inl ⟨by rfl, ?_⟩) ?_ ?_
            rotate_left
            · intro w'
              go_simp
              with_reducible rfl
            rotate_left
            · simp only [Act.put, List.setIfInBounds_toArray, List.set_cons_zero, List.set_cons_succ, i64_w, i32_w]
              rfl
            refine pure_ (i := 5) (N := some 112) (v := ?_) (a' := ?_) #[true, false, true, false, false, true, false, false, false, false, false, false] rfl rfl (by kernel_rfl) (fun _ _ _ h => h) (Or.inl ⟨by rfl, ?_⟩) ?_ ?_
            rotate_left
            · intro w'
              go_simp
              with_reducible rfl
            rotate_left
            · simp only [Act.put, List.setIfInBounds_toArray, List.set_cons_zero, List.set_cons_succ, i64_w, i32_w]
              rfl
            refine pure_ (i := 7) (N := some 114) (v := ?_) (a' := ?_) #[true, false, true, false, false, true, false, true, false, false, false, false] rfl rfl (by kernel_rfl) (fun _ _ _ h => h) (Or.inl ⟨by rfl, ?_⟩) ?_ ?_
            rotate_left
            · intro w'
              go_simp
              with_reducible rfl
            rotate_left
            · simp only [Act.put, List.setIfInBounds_toArray, List.set_cons_zero, List.set_cons_succ, i64_w, i32_w]
              rfl
            refine take_ (i := 1) (N := some 108) (v := ?_) (a' := ?_) #[true, true, true, false, false, true, false, true, false, false, false, false] rfl rfl (by kernel_rfl) (fun _ _ _ h => h) (Or.inl ⟨by rfl, ?_⟩) hHeld ?_ ?_
            rotate_left
            · rintro w' ⟨s0, s1, s2, s3, s4⟩
              go_simp
              with_reducible rfl
            rotate_left
            · simp only [Act.put, List.setIfInBounds_toArray, List.set_cons_zero, List.set_cons_succ, i64_w, i32_w]
              rfl
            refine pure_ (i := 3) (N := some 110) (v := ?_) (a' := ?_) #[true, true, true, true, false, true, false, true, false, false, false, false] rfl rfl (by kernel_rfl) (fun _ _ _ h => h) (Or.inl ⟨by rfl, ?_⟩) ?_ ?_
            rotate_left
            · intro w'
              go_simp
              with_reducible rfl
            rotate_left
            · simp only [Act.put, List.setIfInBounds_toArray, List.set_cons_zero, List.set_cons_succ, i64_w, i32_w]
              rfl
            refine take_ (i := 4) (N := some 111) (v := ?_) (a' := ?_) #[true, true, true, true, true, true, false, true, false, false, false, false] rfl rfl (by kernel_rfl) (fun _ _ _ h => h) (Or.inl ⟨by rfl, ?_⟩) hHeld ?_ ?_
            rotate_left
            · rintro w' ⟨s0, s1, s2, s3, s4⟩
              go_simp
              with_reducible rfl
            rotate_left
            · simp only [Act.put, List.setIfInBounds_toArray, List.set_cons_zero, List.set_cons_succ, i64_w, i32_w]
              rfl
            refine take_ (i := 6) (N := some 113) (v := ?_) (a' := ?_) #[true, true, true, true, true, true, true, true, false, false, false, false] rfl rfl (by kernel_rfl) (fun _ _ _ h => h) (Or.inl ⟨by rfl, ?_⟩) hHeld ?_ ?_
            rotate_left
            · rintro w' ⟨s0, s1, s2, s3, s4⟩
              go_simp
              with_reducible rfl
            rotate_left
            · simp only [Act.put, List.setIfInBounds_toArray, List.set_cons_zero, List.set_cons_succ, i64_w, i32_w]
              rfl
            refine pure_ (i := 8) (N := some 115) (v := ?_) (a' := ?_) #[true, true, true, true, true, true, true, true, true, false, false, false] rfl rfl (by kernel_rfl) (fun _ _ _ h => h) (Or.inl ⟨by rfl, ?_⟩) ?_ ?_
            rotate_left
            · intro w'
              go_simp
              with_reducible rfl
            rotate_left
            · simp only [Act.put, List.setIfInBounds_toArray, List.set_cons_zero, List.set_cons_succ, i64_w, i32_w]
              rfl
            refine take_ (i := 9) (N := some 116) (v := ?_) (a' := ?_) #[true, true, true, true, true, true, true, true, true, true, false, false] rfl rfl (by kernel_rfl) (fun _ _ _ h => h) (Or.inl ⟨by rfl, ?_⟩) hHeld ?_ ?_
            rotate_left
            · rintro w' ⟨s0, s1, s2, s3, s4⟩
              go_simp
              with_reducible rfl
            rotate_left
            · simp only [Act.put, List.setIfInBounds_toArray, List.set_cons_zero, List.set_cons_succ, i64_w, i32_w]
              rfl
            refine one_ (i := 10) (N := some 117) #[true, true, true, true, true, true, true, true, true, true, true, false] rfl rfl (by kernel_rfl) (by decide) (fun K hK => ?_)
            refine goes_ Try.func22 (by kernel_rfl) rfl #[.slice B row.length cB, .slice B2 row.length cB2] (by rfl) rfl rfl (by simp only [List.map_toArray, List.map_cons, List.map_nil]; rfl) ?_
            with_reducible refine (eq_same _ (Kd.C_below HZ.out.1 hHeld.1) HZ.out.2 (Kd.C_below HZ2.out.1 hHeld.1) HZ2.out.2 (Nat.le_trans HZL.out (by decide))).mono ?_
            rintro e w20 ⟨rfl, hb20⟩
            refine ⟨_, rfl, ?_⟩
            refine hK.out _ _ ⟨below_step hHeld.1 hb20, pw_cell_below hb20 hHeld.2.1, pw_cell_below hb20 hHeld.2.2.1, pw_cell_below hb20 hHeld.2.2.2.1, pw_cell_below hb20 hHeld.2.2.2.2⟩ (fun hHeld => ?_)
            clear hK K
            refine norm_ (a' := ?_) ?_ ?_
            rotate_left
            · show Act.put _ (some 117) _ = _
              simp only [Act.put, List.setIfInBounds_toArray, List.set_cons_zero, List.set_cons_succ, i64_w, i32_w]
              rfl
            refine pure_ (i := 11) (N := some 118) (v := ?_) (a' := ?_) #[true, true, true, true, true, true, true, true, true, true, true, true] rfl rfl (by kernel_rfl) (fun _ _ _ h => h) (Or.inl ⟨by rfl, ?_⟩) ?_ ?_
            rotate_left
            · intro w'
              go_simp
              with_reducible rfl
            rotate_left
            · simp only [Act.put, List.setIfInBounds_toArray, List.set_cons_zero, List.set_cons_succ, i64_w, i32_w]
              rfl
            refine done_ (by kernel_rfl) ?_
            have HB20 : Aside0 (Below w16.heap.size w16 w20) := ⟨below_step HBJ.out hHeld.1⟩
            clear hHeld hb20 g0 i0 z0 z2
            go_wp2_with fail
            go_roundg (nd.length - (j + 1))
            case measure => have := HJQ.out; have := HJT.out; omega
            case rel => exact ⟨j + 1, by first | rfl | rw [HJ64.out], ⟨by have := HJT.out; omega, rfl⟩, HB20⟩
          · have e_ : j = nd.length := by have := HJQ.out; omega
            subst e_
            have hdecj : decide ((nd.length : Int) < (nd.length : Int)) = false := decide_eq_false (by omega)
            have hdecj2 : decide (nd.length < nd.length) = false := decide_eq_false hjt
            have i0 := (blk_cell (blk_below HG2.out HBW.out) 0).trans rfl
            clear hjt HJQ
            go_wp2_with fail
            obtain ⟨wp, rfl⟩ : ∃ wp, wp = wr := ⟨wr, rfl⟩
            go_loopg [123] gl2.length (fun kq v123 W => ∃ (m : Nat), v123 = .int .i64 (m : Int) ∧ Aside0 (m ≤ gl2.length ∧ kq = gl2.length - m) ∧ Aside0 (Below wp.heap.size wp W))
            case atStart => exact ⟨0, rfl, ⟨Nat.zero_le _, by omega⟩, ⟨Below.refl _ _⟩⟩
            case round =>
              clear i0
              obtain ⟨m, rfl, HMQ, HBM⟩ := hrel
              have HBW2 := Aside0.mk (below_step HBW.out HBM.out)
              by_cases hmt : m < gl2.length
              · have hm0 : (0 : Int) ≤ (m : Int) := by omega
                have hm1 : (m : Int) < (gl2.length : Int) := by omega
                have hdecm : decide ((m : Int) < (gl2.length : Int)) = true := decide_eq_true hm1
                have hdecm2 : decide (m < gl2.length) = true := decide_eq_true hmt
                have HMT := Aside0.mk hmt
                have HM64 : Aside0 (wrap64 ((m : Int) + 1) = ((m + 1 : Nat) : Int)) := ⟨by have h1_ := HMT.out; have h2_ := HG2L.out; have h3_ := HLL.out.1; unfold wrap64; omega⟩
                have y0 := (blk_cell (blk_below HT9.out HBW2.out) 0).trans rfl
                clear hmt
                go_wp2_with fail
                go_roundg (gl2.length - (m + 1))
                case measure => have := HMQ.out; have := HMT.out; omega
                case rel => exact ⟨m + 1, by first | rfl | rw [HM64.out], ⟨by have := HMT.out; omega, rfl⟩, HBM⟩
              · have e_ : m = gl2.length := by have := HMQ.out; omega
                subst e_
                have hdecm : decide ((gl2.length : Int) < (gl2.length : Int)) = false := decide_eq_false (by omega)
                have hdecm2 : decide (gl2.length < gl2.length) = false := decide_eq_false hmt
                have HSN := Aside0.mk (HS9.out.up HBW2.out)
                clear hmt HMQ
                go_wp2_with fail
                go_roundg (l.length - (i + 1))
                case measure => have := HIQ.out; have := HLT.out; omega
                case rel => exact ⟨i + 1, _, _, _, by first | rfl | rw [HW64.out], ⟨by have := HLT.out; omega, rfl⟩, HSN⟩
      have hne6 := hdd
      clear hdd
      by_cases hdd : d = 7
      · subst hdd
        obtain ⟨hsim, hrm, herr, hmany, hye, hnone⟩ := HCO.out (by decide)
        have HSIM := Aside0.mk hsim
        have HRMF := Aside0.mk hrm
        have HYE := Aside0.mk hye
        have HNONE := Aside0.mk hnone
        have HMN := Aside0.mk hmany
        have HERR := Aside0.mk herr
        clear hsim hrm herr hmany hye hnone HCO
        go_wp2_with fail
        refine HDC.out.mono ?_
        rintro e w7 ⟨rfl, hs7, hf7⟩
        have HS7 := Aside0.mk hs7
        have HT7 := Aside0.mk (hf7.obj HT6.out (fun h_ => by have := HBD.out _ h_; omega))
        have HG7 := Aside0.mk (hf7.obj HG6.out (fun h_ => by have := HBD.out _ h_; have := HN5.out; omega))
        have HRH7 := Aside0.mk (R_deed HRH6.out hf7 HBD.out (Nat.le_of_lt HNX.out))
        have HRR7 := Aside0.mk (R_deed HRR6.out hf7 HBD.out (Nat.le_of_lt HNX.out))
        generalize hok7 : (fun k => (ok k ∨ (w5.alloc (Obj.cells #[.slice AH (graphL l').length cH, .slice AR (heldL l').length cR] 38)).heap.size ≤ k) ∧ k < w7.heap.size) = ok7 at HS7
        clear hs7 hf7 y0 y1 y2 y3 hok7 HDC HO6 HT6 HG6 HRH6 HRR6
        obtain ⟨lo, rmo, many, err⟩ := o
        dsimp only at HS7 HSIM HRMF HYE HNONE HMN HERR
        obtain rfl := HERR.out
        clear HERR
        go_wp2_with fail
        refine (HS7.out.graph).mono ?_
        rintro e w8 ⟨AH2, cH2, AR2, cR2, rfl, hh8, hr8, hb8⟩
        have HGIO := Aside0.mk HS7.out.gi
        have hheld : heldL lo = heldL l' := HSIM.out.held
        have HND2 : Aside0 (rise (fromL (graphL lo) (heldL lo)) = rise (fromL (graphL l') (heldL l'))) := ⟨congrArg rise (HSIM.out.need HGI.out.ok HGIO.out.ok)⟩
        rw [hheld] at HND2 hr8 ⊢
        have hbx := below_alloc (Below.refl w8.heap.size w8) (Obj.cells #[.slice AH2 (graphL lo).length cH2, .slice AR2 (heldL l').length cR2] 38)
        have hb9 := below_step hb8 hbx
        have HS9 := Aside0.mk (HS7.out.below hb9)
        have HT9 := Aside0.mk (blk_below HT7.out hb9)
        have HG9 := Aside0.mk (blk_below HG7.out hb9)
        have HG2 := Aside0.mk (blk_new w8 (Obj.cells #[.slice AH2 (graphL lo).length cH2, .slice AR2 (heldL l').length cR2] 38))
        have HRH9 := Aside0.mk (R_C2 (Kd.R_below HRH7.out hb9))
        have HRR9 := Aside0.mk (R_C (Kd.R_below HRR7.out hb9))
        have HRH2 := Aside0.mk (R_C2 (Kd.R_below hh8 hbx))
        have HRR2 := Aside0.mk (R_C (Kd.R_below hr8 hbx))
        generalize hws : w8.alloc (Obj.cells #[.slice AH2 (graphL lo).length cH2, .slice AR2 (heldL l').length cR2] 38) = ws at HS9 HT9 HG9 HG2 HRH9 HRR9 HRH2 HRR2
        have HWS := Aside0.mk hws
        have HLL : Aside0 (l'.length ≤ 100 ∧ lo.length = l'.length) := ⟨HGI.out.len, HSIM.out.len⟩
        have HNA : Aside0 (∀ W, Below ws.heap.size ws W → Calls Try.prog 21 #[.agg #[.slice AH (graphL l').length cH, .slice AR (heldL l').length cR]] W fun e w' => ∃ A c, e = .returned (.slice A (rise (fromL (graphL l') (heldL l'))).length c) ∧ (Kd.int .i64).R 3 w' W.heap.size (fun _ => True) (.slice A (rise (fromL (graphL l') (heldL l'))).length c) (rise (fromL (graphL l') (heldL l'))) ∧ Below W.heap.size W w') := ⟨fun W hW =>
          (neededIn_calls W AH cH (graphL l') AR cR (heldL l') (Kd.C_below HRH9.out.1 hW) (Kd.C_below HRR9.out.1 hW) HRR9.out.2.1 (graphL_in HGI.out.ok) (heldL_in l') (by rw [graphL_len]; have := HLL.out.1; omega)).mono (fun e w' h => by
            obtain ⟨v0, h1, h2, h3⟩ := h
            obtain ⟨A, c, e0⟩ := Kd.R_slice h2
            subst e0
            exact ⟨A, c, h1, h2, h3⟩)⟩
        have HNB : Aside0 (∀ W, Below ws.heap.size ws W → Calls Try.prog 21 #[.agg #[.slice AH2 (graphL lo).length cH2, .slice AR2 (heldL l').length cR2]] W fun e w' => ∃ A c, e = .returned (.slice A (rise (fromL (graphL l') (heldL l'))).length c) ∧ (Kd.int .i64).R 3 w' W.heap.size (fun _ => True) (.slice A (rise (fromL (graphL l') (heldL l'))).length c) (rise (fromL (graphL l') (heldL l'))) ∧ Below W.heap.size W w') := ⟨fun W hW =>
          (neededIn_calls W AH2 cH2 (graphL lo) AR2 cR2 (heldL l') (Kd.C_below HRH2.out.1 hW) (Kd.C_below HRR2.out.1 hW) HRR2.out.2.1 (graphL_in HGIO.out.ok) (by rw [graphL_len, HLL.out.2, ← graphL_len]; exact heldL_in l') (by rw [graphL_len]; have := HLL.out; omega)).mono (fun e w' h => by
            rw [HND2.out] at h
            obtain ⟨v0, h1, h2, h3⟩ := h
            obtain ⟨A, c, e0⟩ := Kd.R_slice h2
            subst e0
            exact ⟨A, c, h1, h2, h3⟩)⟩
        have HNM : Aside0 (∀ x : Int, x ∈ rise (fromL (graphL l') (heldL l')) ↔ (0 ≤ x ∧ x < (l'.length : Int)) ∧ Nd l' x.toNat) := ⟨fun x => by
          rw [mem_rise]
          have hl_ := needL_len l'
          unfold needL at hl_
          rw [hl_]
          constructor
          · rintro ⟨h1, h2⟩
            exact ⟨h1, (need_iff HGI.out.ok (by omega)).1 h2⟩
          · rintro ⟨h1, h2⟩
            exact ⟨h1, (need_iff HGI.out.ok (by omega)).2 h2⟩⟩
        have HNZ : Aside0 ((rise (fromL (graphL l') (heldL l'))).length ≤ 100) := ⟨by
          have h_ := rise_length (fromL (graphL l') (heldL l'))
          rw [fromL_length, graphL_len] at h_
          have := HLL.out.1
          omega⟩
        have HGR : Aside0 (∀ k, Nd l' k → (graphL lo).getD k [] = (graphL l').getD k []) := ⟨fun k hk => HSIM.out.graph hk⟩
        have HGZ : Aside0 (∀ k, ((graphL l').getD k []).length ≤ 1000 ∧ ((graphL lo).getD k []).length ≤ 1000) := ⟨fun k => ⟨graph_len l' HGI.out.ok k, graph_len lo HGIO.out.ok k⟩⟩
        have HGN : Aside0 ((7 : Int) = 7 → ∀ k : Nat, k < l'.length → ¬ Nd l' k → (graphL lo).getD k [] = []) := ⟨fun e k hk hn => by rw [graph_at, HNONE.out (by first | exact e | trivial) k hk hn]; rfl⟩
        have HG1L : Aside0 ((graphL l').length = l'.length) := ⟨graphL_len l'⟩
        have HG2L : Aside0 ((graphL lo).length = l'.length) := ⟨by rw [graphL_len, HLL.out.2]⟩
        have HHZ : Aside0 ((heldL l').length ≤ 1000) := ⟨by have h_ := heldTo_len l' l'.length; unfold heldL; have := HLL.out.1; omega⟩
        have HYO := Aside0.mk (fun (W : World) (hW : Below ws.heap.size ws W) => young0 (HS9.out.below hW) HYE.out)
        have HBO := Aside0.mk (fun (W : World) (hW : Below ws.heap.size ws W) => barrier0 (HS9.out.below hW) HRMF.out)
        generalize rise (fromL (graphL l') (heldL l')) = nd at HNA HNB HNM HNZ
        generalize heldL l' = hl at *
        generalize graphL l' = gl at *
        generalize graphL lo = gl2 at *
        have HEQR := Aside0.mk (fun (W : World) (hW : Below ws.heap.size ws W) => eq_same W (Kd.C_below HRR9.out.1 hW) HRR9.out.2.1 (Kd.C_below HRR2.out.1 hW) HRR2.out.2.1 (by have := HHZ.out; omega))
        have g0 := (blk_cell HG9.out 0).trans rfl
        have g1 := (blk_cell HG9.out 1).trans rfl
        have i0 := (blk_cell HG2.out 0).trans rfl
        have i1 := (blk_cell HG2.out 1).trans rfl
        have hmn : decide (many < 0) = false := decide_eq_false (by have := HMN.out; omega)
        clear hh8 hr8 hbx hb8 hb9 hheld hws HND2 HG7 HT7 HRH7 HRR7
        go_wp2_with fail
        rw [HWS.out]
        refine start_ (n := 34) (S := fun w' => Below ws.heap.size ws w' ∧ w'.cell? ⟨w5.heap.size, 0, none⟩ = some (.slice AH gl.length cH) ∧ w'.cell? ⟨w5.heap.size, 1, none⟩ = some (.slice AR hl.length cR) ∧ w'.cell? ⟨w8.heap.size, 0, none⟩ = some (.slice AH2 gl2.length cH2) ∧ w'.cell? ⟨w8.heap.size, 1, none⟩ = some (.slice AR2 hl.length cR2)) (ds := []) #[false, false, false, false, false, false, false, false, false, false, false, false, false, false, false, false, false, false, false, false, false, false, false, false, false, false, false, false, false, false, false, false, false, false] (by kernel_rfl) rfl rfl ⟨(below_drew (Below.refl _ _)), g0, g1, i0, i1⟩ (fun hHeld => ?_)
        generalize ws.drew = w9 at hHeld ⊢
        refine pure_ (i := 0) (N := some 66) (v := ?_) (a' := ?_) #[true, false, false, false, false, false, false, false, false, false, false, false, false, false, false, false, false, false, false, false, false, false, false, false, false, false, false, false, false, false, false, false, false, false] rfl rfl (by kernel_rfl) (fun _ _ _ h => h) (Or.inl ⟨by rfl, ?_⟩) ?_ ?_
        rotate_left
        · intro w'
          go_simp
          with_reducible rfl
        rotate_left
        · simp only [Act.put, List.setIfInBounds_toArray, List.set_cons_zero, List.set_cons_succ, i64_w, i32_w]
          rfl
        refine pure_ (i := 1) (N := some 67) (v := ?_) (a' := ?_) #[true, true, false, false, false, false, false, false, false, false, false, false, false, false, false, false, false, false, false, false, false, false, false, false, false, false, false, false, false, false, false, false, false, false] rfl rfl (by kernel_rfl) (fun _ _ _ h => h) (Or.inl ⟨by rfl, ?_⟩) ?_ ?_
        rotate_left
        · intro w'
          go_simp
          with_reducible rfl
        rotate_left
        · simp only [Act.put, List.setIfInBounds_toArray, List.set_cons_zero, List.set_cons_succ, i64_w, i32_w]
          rfl
        refine pure_ (i := 2) (N := some 68) (v := ?_) (a' := ?_) #[true, true, true, false, false, false, false, false, false, false, false, false, false, false, false, false, false, false, false, false, false, false, false, false, false, false, false, false, false, false, false, false, false, false] rfl rfl (by kernel_rfl) (fun _ _ _ h => h) (Or.inl ⟨by rfl, ?_⟩) ?_ ?_
        rotate_left
        · intro w'
          go_simp
          with_reducible rfl
        rotate_left
        · simp only [Act.put, List.setIfInBounds_toArray, List.set_cons_zero, List.set_cons_succ, i64_w, i32_w]
          rfl
        refine pure_ (i := 3) (N := some 69) (v := ?_) (a' := ?_) #[true, true, true, true, false, false, false, false, false, false, false, false, false, false, false, false, false, false, false, false, false, false, false, false, false, false, false, false, false, false, false, false, false, false] rfl rfl (by kernel_rfl) (fun _ _ _ h => h) (Or.inl ⟨by rfl, ?_⟩) ?_ ?_
        rotate_left
        · intro w'
          go_simp
          with_reducible rfl
        rotate_left
        · simp only [Act.put, List.setIfInBounds_toArray, List.set_cons_zero, List.set_cons_succ, i64_w, i32_w]
          rfl
        refine pure_ (i := 4) (N := some 70) (v := ?_) (a' := ?_) #[true, true, true, true, true, false, false, false, false, false, false, false, false, false, false, false, false, false, false, false, false, false, false, false, false, false, false, false, false, false, false, false, false, false] rfl rfl (by kernel_rfl) (fun _ _ _ h => h) (Or.inl ⟨by rfl, ?_⟩) ?_ ?_
        rotate_left
        · intro w'
          go_simp
          with_reducible rfl
        rotate_left
        · simp only [Act.put, List.setIfInBounds_toArray, List.set_cons_zero, List.set_cons_succ, i64_w, i32_w]
          rfl
        refine pure_ (i := 5) (N := some 71) (v := ?_) (a' := ?_) #[true, true, true, true, true, true, false, false, false, false, false, false, false, false, false, false, false, false, false, false, false, false, false, false, false, false, false, false, false, false, false, false, false, false] rfl rfl (by kernel_rfl) (fun _ _ _ h => h) (Or.inl ⟨by rfl, ?_⟩) ?_ ?_
        rotate_left
        · intro w'
          go_simp
          with_reducible rfl
        rotate_left
        · simp only [Act.put, List.setIfInBounds_toArray, List.set_cons_zero, List.set_cons_succ, i64_w, i32_w]
          rfl
        refine pure_ (i := 6) (N := some 72) (v := ?_) (a' := ?_) #[true, true, true, true, true, true, true, false, false, false, false, false, false, false, false, false, false, false, false, false, false, false, false, false, false, false, false, false, false, false, false, false, false, false] rfl rfl (by kernel_rfl) (fun _ _ _ h => h) (Or.inl ⟨by rfl, ?_⟩) ?_ ?_
        rotate_left
        · intro w'
          go_simp
          with_reducible rfl
        rotate_left
        · simp only [Act.put, List.setIfInBounds_toArray, List.set_cons_zero, List.set_cons_succ, i64_w, i32_w]
          rfl
        refine take_ (i := 7) (N := some 73) (v := ?_) (a' := ?_) #[true, true, true, true, true, true, true, true, false, false, false, false, false, false, false, false, false, false, false, false, false, false, false, false, false, false, false, false, false, false, false, false, false, false] rfl rfl (by kernel_rfl) (fun _ _ _ h => h) (Or.inl ⟨by rfl, ?_⟩) hHeld ?_ ?_
        rotate_left
        · rintro w' ⟨s0, s1, s2, s3, s4⟩
          go_simp
          with_reducible rfl
        rotate_left
        · simp only [Act.put, List.setIfInBounds_toArray, List.set_cons_zero, List.set_cons_succ, i64_w, i32_w]
          rfl
        refine take_ (i := 9) (N := some 75) (v := ?_) (a' := ?_) #[true, true, true, true, true, true, true, true, false, true, false, false, false, false, false, false, false, false, false, false, false, false, false, false, false, false, false, false, false, false, false, false, false, false] rfl rfl (by kernel_rfl) (fun _ _ _ h => h) (Or.inl ⟨by rfl, ?_⟩) hHeld ?_ ?_
        rotate_left
        · rintro w' ⟨s0, s1, s2, s3, s4⟩
          go_simp
          with_reducible rfl
        rotate_left
        · simp only [Act.put, List.setIfInBounds_toArray, List.set_cons_zero, List.set_cons_succ, i64_w, i32_w]
          rfl
        refine one_ (i := 8) (N := some 74) #[true, true, true, true, true, true, true, true, true, true, false, false, false, false, false, false, false, false, false, false, false, false, false, false, false, false, false, false, false, false, false, false, false, false] rfl rfl (by kernel_rfl) (by decide) (fun K hK => ?_)
        refine goes_ Try.func21 (by kernel_rfl) rfl #[.agg #[.slice AH gl.length cH, .slice AR hl.length cR]] (by rfl) rfl rfl (by simp only [List.map_toArray, List.map_cons, List.map_nil]; rfl) ?_
        with_reducible refine (HNA.out _ hHeld.1).mono ?_
        rintro e w10 ⟨A8, c8, rfl, hr8, hb8⟩
        refine ⟨_, rfl, ?_⟩
        have HR8 := Aside0.mk (R_C hr8)
        clear hr8
        refine hK.out _ _ ⟨below_step hHeld.1 hb8, pw_cell_below hb8 hHeld.2.1, pw_cell_below hb8 hHeld.2.2.1, pw_cell_below hb8 hHeld.2.2.2.1, pw_cell_below hb8 hHeld.2.2.2.2⟩ (fun hHeld => ?_)
        clear hK K
        refine norm_ (a' := ?_) ?_ ?_
        rotate_left
        · show Act.put _ (some 74) _ = _
          simp only [Act.put, List.setIfInBounds_toArray, List.set_cons_zero, List.set_cons_succ, i64_w, i32_w]
          rfl
        refine one_ (i := 10) (N := some 76) #[true, true, true, true, true, true, true, true, true, true, true, false, false, false, false, false, false, false, false, false, false, false, false, false, false, false, false, false, false, false, false, false, false, false] rfl rfl (by kernel_rfl) (by decide) (fun K hK => ?_)
        refine goes_ Try.func21 (by kernel_rfl) rfl #[.agg #[.slice AH2 gl2.length cH2, .slice AR2 hl.length cR2]] (by rfl) rfl rfl (by simp only [List.map_toArray, List.map_cons, List.map_nil]; rfl) ?_
        with_reducible refine (HNB.out _ hHeld.1).mono ?_
        rintro e w11 ⟨A10, c10, rfl, hr10, hb10⟩
        refine ⟨_, rfl, ?_⟩
        have HR10 := Aside0.mk (R_C hr10)
        have HR8b := Aside0.mk (And.intro (Kd.C_below HR8.out.1 hb10) HR8.out.2.1)
        clear hr10
        refine hK.out _ _ ⟨below_step hHeld.1 hb10, pw_cell_below hb10 hHeld.2.1, pw_cell_below hb10 hHeld.2.2.1, pw_cell_below hb10 hHeld.2.2.2.1, pw_cell_below hb10 hHeld.2.2.2.2⟩ (fun hHeld => ?_)
        clear hK K
        refine norm_ (a' := ?_) ?_ ?_
        rotate_left
        · show Act.put _ (some 76) _ = _
          simp only [Act.put, List.setIfInBounds_toArray, List.set_cons_zero, List.set_cons_succ, i64_w, i32_w]
          rfl
        refine one_ (i := 11) (N := some 77) #[true, true, true, true, true, true, true, true, true, true, true, true, false, false, false, false, false, false, false, false, false, false, false, false, false, false, false, false, false, false, false, false, false, false] rfl rfl (by kernel_rfl) (by decide) (fun K hK => ?_)
        refine goes_ Try.func22 (by kernel_rfl) rfl #[.slice A8 nd.length c8, .slice A10 nd.length c10] (by rfl) rfl rfl (by simp only [List.map_toArray, List.map_cons, List.map_nil]; rfl) ?_
        with_reducible refine (eq_same _ HR8b.out.1 HR8b.out.2 HR10.out.1 HR10.out.2.1 (Nat.le_trans HNZ.out (by decide))).mono ?_
        rintro e w12 ⟨rfl, hb11⟩
        refine ⟨_, rfl, ?_⟩
        refine hK.out _ _ ⟨below_step hHeld.1 hb11, pw_cell_below hb11 hHeld.2.1, pw_cell_below hb11 hHeld.2.2.1, pw_cell_below hb11 hHeld.2.2.2.1, pw_cell_below hb11 hHeld.2.2.2.2⟩ (fun hHeld => ?_)
        clear hK K
        refine norm_ (a' := ?_) ?_ ?_
        rotate_left
        · show Act.put _ (some 77) _ = _
          simp only [Act.put, List.setIfInBounds_toArray, List.set_cons_zero, List.set_cons_succ, i64_w, i32_w]
          rfl
        refine pure_ (i := 12) (N := some 78) (v := ?_) (a' := ?_) #[true, true, true, true, true, true, true, true, true, true, true, true, true, false, false, false, false, false, false, false, false, false, false, false, false, false, false, false, false, false, false, false, false, false] rfl rfl (by kernel_rfl) (fun _ _ _ h => h) (Or.inl ⟨by rfl, ?_⟩) ?_ ?_
        rotate_left
        · intro w'
          go_simp
          with_reducible rfl
        rotate_left
        · simp only [Act.put, List.setIfInBounds_toArray, List.set_cons_zero, List.set_cons_succ, i64_w, i32_w]
          rfl
        refine pure_ (i := 13) (N := some 79) (v := ?_) (a' := ?_) #[true, true, true, true, true, true, true, true, true, true, true, true, true, true, false, false, false, false, false, false, false, false, false, false, false, false, false, false, false, false, false, false, false, false] rfl rfl (by kernel_rfl) (fun _ _ _ h => h) (Or.inl ⟨by rfl, ?_⟩) ?_ ?_
        rotate_left
        · intro w'
          go_simp
          with_reducible rfl
        rotate_left
        · simp only [Act.put, List.setIfInBounds_toArray, List.set_cons_zero, List.set_cons_succ, i64_w, i32_w]
          rfl
        refine pure_ (i := 14) (N := some 80) (v := ?_) (a' := ?_) #[true, true, true, true, true, true, true, true, true, true, true, true, true, true, true, false, false, false, false, false, false, false, false, false, false, false, false, false, false, false, false, false, false, false] rfl rfl (by kernel_rfl) (fun _ _ _ h => h) (Or.inl ⟨by rfl, ?_⟩) ?_ ?_
        rotate_left
        · intro w'
          go_simp
          with_reducible rfl
        rotate_left
        · simp only [Act.put, List.setIfInBounds_toArray, List.set_cons_zero, List.set_cons_succ, i64_w, i32_w]
          rfl
        refine pure_ (i := 15) (N := some 81) (v := ?_) (a' := ?_) #[true, true, true, true, true, true, true, true, true, true, true, true, true, true, true, true, false, false, false, false, false, false, false, false, false, false, false, false, false, false, false, false, false, false] rfl rfl (by kernel_rfl) (fun _ _ _ h => h) (Or.inl ⟨by rfl, ?_⟩) ?_ ?_
        rotate_left
        · intro w'
          go_simp
          with_reducible rfl
        rotate_left
        · simp only [Act.put, List.setIfInBounds_toArray, List.set_cons_zero, List.set_cons_succ, i64_w, i32_w]
          rfl
        refine pure_ (i := 17) (N := some 83) (v := ?_) (a' := ?_) #[true, true, true, true, true, true, true, true, true, true, true, true, true, true, true, true, false, true, false, false, false, false, false, false, false, false, false, false, false, false, false, false, false, false] rfl rfl (by kernel_rfl) (fun _ _ _ h => h) (Or.inl ⟨by rfl, ?_⟩) ?_ ?_
        rotate_left
        · intro w'
          go_simp
          with_reducible rfl
        rotate_left
        · simp only [Act.put, List.setIfInBounds_toArray, List.set_cons_zero, List.set_cons_succ, i64_w, i32_w]
          rfl
        refine take_ (i := 16) (N := some 82) (v := ?_) (a' := ?_) #[true, true, true, true, true, true, true, true, true, true, true, true, true, true, true, true, true, true, false, false, false, false, false, false, false, false, false, false, false, false, false, false, false, false] rfl rfl (by kernel_rfl) (fun _ _ _ h => h) (Or.inl ⟨by rfl, ?_⟩) hHeld ?_ ?_
        rotate_left
        · rintro w' ⟨s0, s1, s2, s3, s4⟩
          go_simp
          with_reducible rfl
        rotate_left
        · simp only [Act.put, List.setIfInBounds_toArray, List.set_cons_zero, List.set_cons_succ, i64_w, i32_w]
          rfl
        refine take_ (i := 18) (N := some 84) (v := ?_) (a' := ?_) #[true, true, true, true, true, true, true, true, true, true, true, true, true, true, true, true, true, true, true, false, false, false, false, false, false, false, false, false, false, false, false, false, false, false] rfl rfl (by kernel_rfl) (fun _ _ _ h => h) (Or.inl ⟨by rfl, ?_⟩) hHeld ?_ ?_
        rotate_left
        · rintro w' ⟨s0, s1, s2, s3, s4⟩
          go_simp
          with_reducible rfl
        rotate_left
        · simp only [Act.put, List.setIfInBounds_toArray, List.set_cons_zero, List.set_cons_succ, i64_w, i32_w]
          rfl
        refine one_ (i := 19) (N := some 85) #[true, true, true, true, true, true, true, true, true, true, true, true, true, true, true, true, true, true, true, true, false, false, false, false, false, false, false, false, false, false, false, false, false, false] rfl rfl (by kernel_rfl) (by decide) (fun K hK => ?_)
        refine goes_ Try.func22 (by kernel_rfl) rfl #[.slice AR hl.length cR, .slice AR2 hl.length cR2] (by rfl) rfl rfl (by simp only [List.map_toArray, List.map_cons, List.map_nil]; rfl) ?_
        with_reducible refine (HEQR.out _ hHeld.1).mono ?_
        rintro e w13 ⟨rfl, hb19⟩
        refine ⟨_, rfl, ?_⟩
        refine hK.out _ _ ⟨below_step hHeld.1 hb19, pw_cell_below hb19 hHeld.2.1, pw_cell_below hb19 hHeld.2.2.1, pw_cell_below hb19 hHeld.2.2.2.1, pw_cell_below hb19 hHeld.2.2.2.2⟩ (fun hHeld => ?_)
        clear hK K
        refine norm_ (a' := ?_) ?_ ?_
        rotate_left
        · show Act.put _ (some 85) _ = _
          simp only [Act.put, List.setIfInBounds_toArray, List.set_cons_zero, List.set_cons_succ, i64_w, i32_w]
          rfl
        refine pure_ (i := 20) (N := some 86) (v := ?_) (a' := ?_) #[true, true, true, true, true, true, true, true, true, true, true, true, true, true, true, true, true, true, true, true, true, false, false, false, false, false, false, false, false, false, false, false, false, false] rfl rfl (by kernel_rfl) (fun _ _ _ h => h) (Or.inl ⟨by rfl, ?_⟩) ?_ ?_
        rotate_left
        · intro w'
          go_simp
          with_reducible rfl
        rotate_left
        · simp only [Act.put, List.setIfInBounds_toArray, List.set_cons_zero, List.set_cons_succ, i64_w, i32_w]
          rfl
        refine pure_ (i := 21) (N := some 87) (v := ?_) (a' := ?_) #[true, true, true, true, true, true, true, true, true, true, true, true, true, true, true, true, true, true, true, true, true, true, false, false, false, false, false, false, false, false, false, false, false, false] rfl rfl (by kernel_rfl) (fun _ _ _ h => h) (Or.inl ⟨by rfl, ?_⟩) ?_ ?_
        rotate_left
        · intro w'
          go_simp
          with_reducible rfl
        rotate_left
        · simp only [Act.put, List.setIfInBounds_toArray, List.set_cons_zero, List.set_cons_succ, i64_w, i32_w]
          rfl
        refine pure_ (i := 22) (N := some 88) (v := ?_) (a' := ?_) #[true, true, true, true, true, true, true, true, true, true, true, true, true, true, true, true, true, true, true, true, true, true, true, false, false, false, false, false, false, false, false, false, false, false] rfl rfl (by kernel_rfl) (fun _ _ _ h => h) (Or.inl ⟨by rfl, ?_⟩) ?_ ?_
        rotate_left
        · intro w'
          go_simp
          with_reducible rfl
        rotate_left
        · simp only [Act.put, List.setIfInBounds_toArray, List.set_cons_zero, List.set_cons_succ, i64_w, i32_w]
          rfl
        refine pure_ (i := 23) (N := some 89) (v := ?_) (a' := ?_) #[true, true, true, true, true, true, true, true, true, true, true, true, true, true, true, true, true, true, true, true, true, true, true, true, false, false, false, false, false, false, false, false, false, false] rfl rfl (by kernel_rfl) (fun _ _ _ h => h) (Or.inl ⟨by rfl, ?_⟩) ?_ ?_
        rotate_left
        · intro w'
          go_simp
          with_reducible rfl
        rotate_left
        · simp only [Act.put, List.setIfInBounds_toArray, List.set_cons_zero, List.set_cons_succ, i64_w, i32_w]
          rfl
        refine one_ (i := 24) (N := some 90) #[true, true, true, true, true, true, true, true, true, true, true, true, true, true, true, true, true, true, true, true, true, true, true, true, true, false, false, false, false, false, false, false, false, false] rfl rfl (by kernel_rfl) (by decide) (fun K hK => ?_)
        refine goes_ Try.func17 (by kernel_rfl) rfl #[.pointer (some ⟨g, 0, none⟩)] (by rfl) rfl rfl (by simp only [List.map_toArray, List.map_cons, List.map_nil]; rfl) ?_
        with_reducible refine (HYO.out _ hHeld.1).mono ?_
        rintro e w14 ⟨A24, c24, rfl, hb24⟩
        refine ⟨_, rfl, ?_⟩
        refine hK.out _ _ ⟨below_step hHeld.1 hb24, pw_cell_below hb24 hHeld.2.1, pw_cell_below hb24 hHeld.2.2.1, pw_cell_below hb24 hHeld.2.2.2.1, pw_cell_below hb24 hHeld.2.2.2.2⟩ (fun hHeld => ?_)
        clear hK K
        refine norm_ (a' := ?_) ?_ ?_
        rotate_left
        · show Act.put _ (some 90) _ = _
          simp only [Act.put, List.setIfInBounds_toArray, List.set_cons_zero, List.set_cons_succ, i64_w, i32_w]
          rfl
        refine pure_ (i := 25) (N := some 91) (v := ?_) (a' := ?_) #[true, true, true, true, true, true, true, true, true, true, true, true, true, true, true, true, true, true, true, true, true, true, true, true, true, true, false, false, false, false, false, false, false, false] rfl rfl (by kernel_rfl) (fun _ _ _ h => h) (Or.inl ⟨by rfl, ?_⟩) ?_ ?_
        rotate_left
        · intro w'
          go_simp
          with_reducible rfl
        rotate_left
        · simp only [Act.put, List.setIfInBounds_toArray, List.set_cons_zero, List.set_cons_succ, i64_w, i32_w]
          rfl
        refine pure_ (i := 26) (N := some 92) (v := ?_) (a' := ?_) #[true, true, true, true, true, true, true, true, true, true, true, true, true, true, true, true, true, true, true, true, true, true, true, true, true, true, true, false, false, false, false, false, false, false] rfl rfl (by kernel_rfl) (fun _ _ _ h => h) (Or.inl ⟨by rfl, ?_⟩) ?_ ?_
        rotate_left
        · intro w'
          go_simp
          with_reducible rfl
        rotate_left
        · simp only [Act.put, List.setIfInBounds_toArray, List.set_cons_zero, List.set_cons_succ, i64_w, i32_w]
          rfl
        refine pure_ (i := 27) (N := some 93) (v := ?_) (a' := ?_) #[true, true, true, true, true, true, true, true, true, true, true, true, true, true, true, true, true, true, true, true, true, true, true, true, true, true, true, true, false, false, false, false, false, false] rfl rfl (by kernel_rfl) (fun _ _ _ h => h) (Or.inl ⟨by rfl, ?_⟩) ?_ ?_
        rotate_left
        · intro w'
          go_simp
          with_reducible rfl
        rotate_left
        · simp only [Act.put, List.setIfInBounds_toArray, List.set_cons_zero, List.set_cons_succ, i64_w, i32_w]
          rfl
        refine pure_ (i := 28) (N := some 94) (v := ?_) (a' := ?_) #[true, true, true, true, true, true, true, true, true, true, true, true, true, true, true, true, true, true, true, true, true, true, true, true, true, true, true, true, true, false, false, false, false, false] rfl rfl (by kernel_rfl) (fun _ _ _ h => h) (Or.inl ⟨by rfl, ?_⟩) ?_ ?_
        rotate_left
        · intro w'
          go_simp
          with_reducible rfl
        rotate_left
        · simp only [Act.put, List.setIfInBounds_toArray, List.set_cons_zero, List.set_cons_succ, i64_w, i32_w]
          rfl
        refine pure_ (i := 29) (N := some 95) (v := ?_) (a' := ?_) #[true, true, true, true, true, true, true, true, true, true, true, true, true, true, true, true, true, true, true, true, true, true, true, true, true, true, true, true, true, true, false, false, false, false] rfl rfl (by kernel_rfl) (fun _ _ _ h => h) (Or.inl ⟨by rfl, ?_⟩) ?_ ?_
        rotate_left
        · intro w'
          go_simp
          with_reducible rfl
        rotate_left
        · simp only [Act.put, List.setIfInBounds_toArray, List.set_cons_zero, List.set_cons_succ, i64_w, i32_w]
          rfl
        refine one_ (i := 30) (N := some 96) #[true, true, true, true, true, true, true, true, true, true, true, true, true, true, true, true, true, true, true, true, true, true, true, true, true, true, true, true, true, true, true, false, false, false] rfl rfl (by kernel_rfl) (by decide) (fun K hK => ?_)
        refine goes_ Try.func23 (by kernel_rfl) rfl #[.pointer (some ⟨g, 0, none⟩)] (by rfl) rfl rfl (by simp only [List.map_toArray, List.map_cons, List.map_nil]; rfl) ?_
        with_reducible refine (HBO.out _ hHeld.1).mono ?_
        rintro e w15 ⟨A30, c30, rfl, hb30⟩
        refine ⟨_, rfl, ?_⟩
        refine hK.out _ _ ⟨below_step hHeld.1 hb30, pw_cell_below hb30 hHeld.2.1, pw_cell_below hb30 hHeld.2.2.1, pw_cell_below hb30 hHeld.2.2.2.1, pw_cell_below hb30 hHeld.2.2.2.2⟩ (fun hHeld => ?_)
        clear hK K
        refine norm_ (a' := ?_) ?_ ?_
        rotate_left
        · show Act.put _ (some 96) _ = _
          simp only [Act.put, List.setIfInBounds_toArray, List.set_cons_zero, List.set_cons_succ, i64_w, i32_w]
          rfl
        refine pure_ (i := 31) (N := some 97) (v := ?_) (a' := ?_) #[true, true, true, true, true, true, true, true, true, true, true, true, true, true, true, true, true, true, true, true, true, true, true, true, true, true, true, true, true, true, true, true, false, false] rfl rfl (by kernel_rfl) (fun _ _ _ h => h) (Or.inl ⟨by rfl, ?_⟩) ?_ ?_
        rotate_left
        · intro w'
          go_simp
          with_reducible rfl
        rotate_left
        · simp only [Act.put, List.setIfInBounds_toArray, List.set_cons_zero, List.set_cons_succ, i64_w, i32_w]
          rfl
        refine pure_ (i := 32) (N := some 98) (v := ?_) (a' := ?_) #[true, true, true, true, true, true, true, true, true, true, true, true, true, true, true, true, true, true, true, true, true, true, true, true, true, true, true, true, true, true, true, true, true, false] rfl rfl (by kernel_rfl) (fun _ _ _ h => h) (Or.inl ⟨by rfl, ?_⟩) ?_ ?_
        rotate_left
        · intro w'
          go_simp
          with_reducible rfl
        rotate_left
        · simp only [Act.put, List.setIfInBounds_toArray, List.set_cons_zero, List.set_cons_succ, i64_w, i32_w]
          rfl
        refine pure_ (i := 33) (N := some 99) (v := ?_) (a' := ?_) #[true, true, true, true, true, true, true, true, true, true, true, true, true, true, true, true, true, true, true, true, true, true, true, true, true, true, true, true, true, true, true, true, true, true] rfl rfl (by kernel_rfl) (fun _ _ _ h => h) (Or.inl ⟨by rfl, ?_⟩) ?_ ?_
        rotate_left
        · intro w'
          go_simp
          with_reducible rfl
        rotate_left
        · simp only [Act.put, List.setIfInBounds_toArray, List.set_cons_zero, List.set_cons_succ, i64_w, i32_w]
          rfl
        refine done_ (by kernel_rfl) ?_
        have HB15 : Aside0 (Below ws.heap.size ws w15) := ⟨hHeld.1⟩
        clear hHeld hb8 hb10 hb11 hb19 hb24 hb30 g0 g1 i0 i1 HWS HR8 HR8b HR10
        have i0 := (blk_cell (blk_below HG2.out HB15.out) 0).trans rfl
        have i1 := (blk_cell (blk_below HG2.out HB15.out) 1).trans rfl
        go_wp2_with fail
        refine (HNB.out _ HB15.out).mono ?_
        rintro e w16 ⟨A16, c16, rfl, hr16, hb16⟩
        have HR16 := Aside0.mk (R_C hr16)
        have HB16 := Aside0.mk (below_step HB15.out hb16)
        clear hr16 hb16 i0 i1 HB15
        go_wp2_with fail
        obtain ⟨wo, rfl⟩ : ∃ wo, wo = wr := ⟨wr, rfl⟩
        go_loopg [103] nd.length (fun kq v103 W => ∃ (j : Nat), v103 = .int .i64 (j : Int) ∧ Aside0 (j ≤ nd.length ∧ kq = nd.length - j) ∧ Aside0 (Below w16.heap.size w16 W))
        case atStart => exact ⟨0, rfl, ⟨Nat.zero_le _, by omega⟩, ⟨Below.refl _ _⟩⟩
        case round =>
          obtain ⟨j, rfl, HJQ, HBJ⟩ := hrel
          have HBW := Aside0.mk (below_step HB16.out HBJ.out)
          by_cases hjt : j < nd.length
          · have hj0 : (0 : Int) ≤ (j : Int) := by omega
            have hj1 : (j : Int) < (nd.length : Int) := by omega
            have hdecj : decide ((j : Int) < (nd.length : Int)) = true := decide_eq_true hj1
            have hdecj2 : decide (j < nd.length) = true := decide_eq_true hjt
            have HJT := Aside0.mk hjt
            have HJ64 : Aside0 (wrap64 ((j : Int) + 1) = ((j + 1 : Nat) : Int)) := ⟨by have h1_ := HJT.out; have h2_ := HNZ.out; unfold wrap64; omega⟩
            obtain ⟨adr, e, hx⟩ := Kd.at_int (Kd.C_below HR16.out.1 HBJ.out) (j : Int) hj0 hj1
            rw [Int.toNat_natCast, rdI _ _ hjt] at hx
            subst e
            have hnx := (HNM.out nd[j]).1 (List.getElem_mem hjt)
            generalize nd[j] = x at hx hnx
            obtain ⟨m, rfl⟩ : ∃ m : Nat, x = m := ⟨x.toNat, by omega⟩
            rw [Int.toNat_natCast] at hnx
            have hm1 : (m : Int) < (gl.length : Int) := by have := HG1L.out; omega
            have hm2 : (m : Int) < (gl2.length : Int) := by have := HG2L.out; omega
            have hm0 : (0 : Int) ≤ (m : Int) := by omega
            obtain ⟨adH, B, cB, rfl, z0, hzc, hzC⟩ := at_row (Kd.C_below HRH9.out.1 HBW.out) m (by omega)
            obtain ⟨adH2, B2, cB2, rfl, z2, hzc2, hzC2⟩ := at_row (Kd.C_below HRH2.out.1 HBW.out) m (by omega)
            have HZ := Aside0.mk (And.intro hzC hzc)
            rw [HGR.out m hnx.2] at z2 hzc2 hzC2
            have HZ2 := Aside0.mk (And.intro hzC2 hzc2)
            have HZL := Aside0.mk (HGZ.out m).1
            generalize gl.getD m [] = row at z0 z2 HZ HZ2 HZL
            have g0 := (blk_cell (blk_below HG9.out HBW.out) 0).trans rfl
            have i0 := (blk_cell (blk_below HG2.out HBW.out) 0).trans rfl
            clear hzc hzC hzc2 hzC2 hjt hnx
            go_wp2_with fail
            refine start_ (n := 12) (S := fun w' => Below wr.heap.size wr w' ∧ w'.cell? ⟨w5.heap.size, 0, none⟩ = some (.slice (some adH) gl.length cH) ∧ w'.cell? (adH.add m) = some (.slice B row.length cB) ∧ w'.cell? ⟨w8.heap.size, 0, none⟩ = some (.slice (some adH2) gl2.length cH2) ∧ w'.cell? (adH2.add m) = some (.slice B2 row.length cB2)) (ds := []) #[false, false, false, false, false, false, false, false, false, false, false, false] (by kernel_rfl) rfl rfl ⟨(below_drew (Below.refl _ _)), g0, z0, i0, z2⟩ (fun hHeld => ?_)
            generalize wr.drew = w19 at hHeld ⊢
            refine pure_ (i := 0) (N := some 107) (v := ?_) (a' := ?_) #[true, false, false, false, false, false, false, false, false, false, false, false] rfl rfl (by kernel_rfl) (fun _ _ _ h => h) (Or.inl ⟨by rfl, ?_⟩) ?_ ?_
            rotate_left
            · intro w'
              go_simp
              with_reducible rfl
            rotate_left
            · simp only [Act.put, List.setIfInBounds_toArray, List.set_cons_zero, List.set_cons_succ, i64_w, i32_w]
              rfl
            refine pure_ (i := 2) (N := some 109) (v := ?_) (a' := ?_) #[true, false, true, false, false, false, false, false, false, false, false, false] rfl rfl (by kernel_rfl) (fun _ _ _ h => h) (Or.inl ⟨by rfl, ?_⟩) ?_ ?_
            rotate_left
            · intro w'
              go_simp
              with_reducible rfl
            rotate_left
            · simp only [Act.put, List.setIfInBounds_toArray, List.set_cons_zero, List.set_cons_succ, i64_w, i32_w]
              rfl
            refine pure_ (i := 5) (N := some 112) (v := ?_) (a' := ?_) #[true, false, true, false, false, true, false, false, false, false, false, false] rfl rfl (by kernel_rfl) (fun _ _ _ h => h) (Or.inl ⟨by rfl, ?_⟩) ?_ ?_
            rotate_left
            · intro w'
              go_simp
              with_reducible rfl
            rotate_left
            · simp only [Act.put, List.setIfInBounds_toArray, List.set_cons_zero, List.set_cons_succ, i64_w, i32_w]
              rfl
            refine pure_ (i := 7) (N := some 114) (v := ?_) (a' := ?_) #[true, false, true, false, false, true, false, true, false, false, false, false] rfl rfl (by kernel_rfl) (fun _ _ _ h => h) (Or.inl ⟨by rfl, ?_⟩) ?_ ?_
            rotate_left
            · intro w'
              go_simp
              with_reducible rfl
            rotate_left
            · simp only [Act.put, List.setIfInBounds_toArray, List.set_cons_zero, List.set_cons_succ, i64_w, i32_w]
              rfl
            refine take_ (i := 1) (N := some 108) (v := ?_) (a' := ?_) #[true, true, true, false, false, true, false, true, false, false, false, false] rfl rfl (by kernel_rfl) (fun _ _ _ h => h) (Or.inl ⟨by rfl, ?_⟩) hHeld ?_ ?_
            rotate_left
            · rintro w' ⟨s0, s1, s2, s3, s4⟩
              go_simp
              with_reducible rfl
            rotate_left
            · simp only [Act.put, List.setIfInBounds_toArray, List.set_cons_zero, List.set_cons_succ, i64_w, i32_w]
              rfl
            refine pure_ (i := 3) (N := some 110) (v := ?_) (a' := ?_) #[true, true, true, true, false, true, false, true, false, false, false, false] rfl rfl (by kernel_rfl) (fun _ _ _ h => h) (Or.inl ⟨by rfl, ?_⟩) ?_ ?_
            rotate_left
            · intro w'
              go_simp
              with_reducible rfl
            rotate_left
            · simp only [Act.put, List.setIfInBounds_toArray, List.set_cons_zero, List.set_cons_succ, i64_w, i32_w]
              rfl
            refine take_ (i := 4) (N := some 111) (v := ?_) (a' := ?_) #[true, true, true, true, true, true, false, true, false, false, false, false] rfl rfl (by kernel_rfl) (fun _ _ _ h => h) (Or.inl ⟨by rfl, ?_⟩) hHeld ?_ ?_
            rotate_left
            · rintro w' ⟨s0, s1, s2, s3, s4⟩
              go_simp
              with_reducible rfl
            rotate_left
            · simp only [Act.put, List.setIfInBounds_toArray, List.set_cons_zero, List.set_cons_succ, i64_w, i32_w]
              rfl
            refine take_ (i := 6) (N := some 113) (v := ?_) (a' := ?_) #[true, true, true, true, true, true, true, true, false, false, false, false] rfl rfl (by kernel_rfl) (fun _ _ _ h => h) (Or.inl ⟨by rfl, ?_⟩) hHeld ?_ ?_
            rotate_left
            · rintro w' ⟨s0, s1, s2, s3, s4⟩
              go_simp
              with_reducible rfl
            rotate_left
            · simp only [Act.put, List.setIfInBounds_toArray, List.set_cons_zero, List.set_cons_succ, i64_w, i32_w]
              rfl
            refine pure_ (i := 8) (N := some 115) (v := ?_) (a' := ?_) #[true, true, true, true, true, true, true, true, true, false, false, false] rfl rfl (by kernel_rfl) (fun _ _ _ h => h) (Or.inl ⟨by rfl, ?_⟩) ?_ ?_
            rotate_left
            · intro w'
              go_simp
              with_reducible rfl
            rotate_left
            · simp only [Act.put, List.setIfInBounds_toArray, List.set_cons_zero, List.set_cons_succ, i64_w, i32_w]
              rfl
            refine take_ (i := 9) (N := some 116) (v := ?_) (a' := ?_) #[true, true, true, true, true, true, true, true, true, true, false, false] rfl rfl (by kernel_rfl) (fun _ _ _ h => h) (Or.inl ⟨by rfl, ?_⟩) hHeld ?_ ?_
            rotate_left
            · rintro w' ⟨s0, s1, s2, s3, s4⟩
              go_simp
              with_reducible rfl
            rotate_left
            · simp only [Act.put, List.setIfInBounds_toArray, List.set_cons_zero, List.set_cons_succ, i64_w, i32_w]
              rfl
            refine one_ (i := 10) (N := some 117) #[true, true, true, true, true, true, true, true, true, true, true, false] rfl rfl (by kernel_rfl) (by decide) (fun K hK => ?_)
            refine goes_ Try.func22 (by kernel_rfl) rfl #[.slice B row.length cB, .slice B2 row.length cB2] (by rfl) rfl rfl (by simp only [List.map_toArray, List.map_cons, List.map_nil]; rfl) ?_
            with_reducible refine (eq_same _ (Kd.C_below HZ.out.1 hHeld.1) HZ.out.2 (Kd.C_below HZ2.out.1 hHeld.1) HZ2.out.2 (Nat.le_trans HZL.out (by decide))).mono ?_
            rintro e w20 ⟨rfl, hb20⟩
            refine ⟨_, rfl, ?_⟩
            refine hK.out _ _ ⟨below_step hHeld.1 hb20, pw_cell_below hb20 hHeld.2.1, pw_cell_below hb20 hHeld.2.2.1, pw_cell_below hb20 hHeld.2.2.2.1, pw_cell_below hb20 hHeld.2.2.2.2⟩ (fun hHeld => ?_)
            clear hK K
            refine norm_ (a' := ?_) ?_ ?_
            rotate_left
            · show Act.put _ (some 117) _ = _
              simp only [Act.put, List.setIfInBounds_toArray, List.set_cons_zero, List.set_cons_succ, i64_w, i32_w]
              rfl
            refine pure_ (i := 11) (N := some 118) (v := ?_) (a' := ?_) #[true, true, true, true, true, true, true, true, true, true, true, true] rfl rfl (by kernel_rfl) (fun _ _ _ h => h) (Or.inl ⟨by rfl, ?_⟩) ?_ ?_
            rotate_left
            · intro w'
              go_simp
              with_reducible rfl
            rotate_left
            · simp only [Act.put, List.setIfInBounds_toArray, List.set_cons_zero, List.set_cons_succ, i64_w, i32_w]
              rfl
            refine done_ (by kernel_rfl) ?_
            have HB20 : Aside0 (Below w16.heap.size w16 w20) := ⟨below_step HBJ.out hHeld.1⟩
            clear hHeld hb20 g0 i0 z0 z2
            go_wp2_with fail
            go_roundg (nd.length - (j + 1))
            case measure => have := HJQ.out; have := HJT.out; omega
            case rel => exact ⟨j + 1, by first | rfl | rw [HJ64.out], ⟨by have := HJT.out; omega, rfl⟩, HB20⟩
          · have e_ : j = nd.length := by have := HJQ.out; omega
            subst e_
            have hdecj : decide ((nd.length : Int) < (nd.length : Int)) = false := decide_eq_false (by omega)
            have hdecj2 : decide (nd.length < nd.length) = false := decide_eq_false hjt
            have i0 := (blk_cell (blk_below HG2.out HBW.out) 0).trans rfl
            clear hjt HJQ
            go_wp2_with fail
            obtain ⟨wp, rfl⟩ : ∃ wp, wp = wr := ⟨wr, rfl⟩
            go_loopg [123] gl2.length (fun kq v123 W => ∃ (m : Nat), v123 = .int .i64 (m : Int) ∧ Aside0 (m ≤ gl2.length ∧ kq = gl2.length - m) ∧ Aside0 (Below wp.heap.size wp W))
            case atStart => exact ⟨0, rfl, ⟨Nat.zero_le _, by omega⟩, ⟨Below.refl _ _⟩⟩
            case round =>
              clear i0
              obtain ⟨m, rfl, HMQ, HBM⟩ := hrel
              have HBW2 := Aside0.mk (below_step HBW.out HBM.out)
              by_cases hmt : m < gl2.length
              · have hm0 : (0 : Int) ≤ (m : Int) := by omega
                have hm1 : (m : Int) < (gl2.length : Int) := by omega
                have hdecm : decide ((m : Int) < (gl2.length : Int)) = true := decide_eq_true hm1
                have hdecm2 : decide (m < gl2.length) = true := decide_eq_true hmt
                have HMT := Aside0.mk hmt
                have HM64 : Aside0 (wrap64 ((m : Int) + 1) = ((m + 1 : Nat) : Int)) := ⟨by have h1_ := HMT.out; have h2_ := HG2L.out; have h3_ := HLL.out.1; unfold wrap64; omega⟩
                have y0 := (blk_cell (blk_below HT9.out HBW2.out) 0).trans rfl
                obtain ⟨adH2, B2, cB2, rfl, z2, hzc2, hzC2⟩ := at_row (Kd.C_below HRH2.out.1 HBW2.out) m hmt
                have hnn : 0 < (gl2.getD m []).length → Nd l' m := fun h => Classical.byContradiction (fun hn => by rw [HGN.out (by first | exact rfl | trivial) m (by have := HG2L.out; omega) hn] at h; exact absurd h (by decide))
                have i0 := (blk_cell (blk_below HG2.out HBW2.out) 0).trans rfl
                have i1 := (blk_cell (blk_below HG2.out HBW2.out) 1).trans rfl
                generalize gl2.getD m [] = row at z2 hnn
                by_cases hr : 0 < row.length
                · have hdr : decide ((0 : Int) < (row.length : Int)) = true := decide_eq_true (by omega)
                  have hdr2 : decide (0 < row.length) = true := decide_eq_true hr
                  have hin : decide ((m : Int) ∈ nd) = true := decide_eq_true ((HNM.out (m : Int)).2 ⟨⟨hm0, by have := HG2L.out; omega⟩, by rw [Int.toNat_natCast]; exact hnn hr⟩)
                  have HIN := Aside0.mk hin
                  clear hzc2 hzC2 hmt hnn hr hin
                  go_wp2_with fail
                  refine (HNB.out _ HBW2.out).mono ?_
                  rintro e w21 ⟨A21, c21, rfl, hr21, hb21⟩
                  have HB21 := Aside0.mk (below_step HBM.out hb21)
                  have HCALL := Aside0.mk (has_calls w21 (m : Int) (R_C hr21).1 (R_C hr21).2.1 (Nat.le_trans HNZ.out (by decide)))
                  rw [HIN.out] at HCALL
                  clear hr21 hb21 i0 i1 y0 z2
                  go_wp2_with fail
                  refine HCALL.out.mono ?_
                  rintro e w22 ⟨rfl, hb22⟩
                  have HB22 := Aside0.mk (below_step HB21.out hb22)
                  clear hb22 HCALL
                  go_wp2_with fail
                  go_roundg (gl2.length - (m + 1))
                  case measure => have := HMQ.out; have := HMT.out; omega
                  case rel => exact ⟨m + 1, by first | rfl | rw [HM64.out], ⟨by have := HMT.out; omega, rfl⟩, HB22⟩
                · have hdr : decide ((0 : Int) < (row.length : Int)) = false := decide_eq_false (by omega)
                  have hdr2 : decide (0 < row.length) = false := decide_eq_false hr
                  clear hzc2 hzC2 hmt hnn hr
                  go_wp2_with fail
                  go_roundg (gl2.length - (m + 1))
                  case measure => have := HMQ.out; have := HMT.out; omega
                  case rel => exact ⟨m + 1, by first | rfl | rw [HM64.out], ⟨by have := HMT.out; omega, rfl⟩, HBM⟩
              · have e_ : m = gl2.length := by have := HMQ.out; omega
                subst e_
                have hdecm : decide ((gl2.length : Int) < (gl2.length : Int)) = false := decide_eq_false (by omega)
                have hdecm2 : decide (gl2.length < gl2.length) = false := decide_eq_false hmt
                have HSN := Aside0.mk (HS9.out.up HBW2.out)
                clear hmt HMQ
                go_wp2_with fail
                go_roundg (l.length - (i + 1))
                case measure => have := HIQ.out; have := HLT.out; omega
                case rel => exact ⟨i + 1, _, _, _, by first | rfl | rw [HW64.out], ⟨by have := HLT.out; omega, rfl⟩, HSN⟩
      have hne7 := hdd
      clear hdd
      have hd6 : (d != 6) = true := by simpa using hne6
      have hd7 : (d != 7) = true := by simpa using hne7
      clear HCO
      go_wp2_with fail
      refine HDC.out.mono ?_
      rintro e w7 ⟨rfl, hs7, hf7⟩
      have HS7 := Aside0.mk hs7
      clear hs7 hf7
      go_wp2_with fail
      go_roundg (l.length - (i + 1))
      case measure => have := HIQ.out; have := HLT.out; omega
      case rel => exact ⟨i + 1, _, _, _, by first | rfl | rw [HW64.out], ⟨by have := HLT.out; omega, rfl⟩, HS7⟩
    · have e_ : i = l.length := by have := HIQ.out; omega
      subst e_
      have hdec : decide ((l.length : Int) < (l.length : Int)) = false := decide_eq_false (by omega)
      have hdec2 : decide (l.length < l.length) = false := decide_eq_false hlt
      have HBL := Aside0.mk HS.out.low
      clear hlt HIQ
      go_wp2_with fail
      go_ret
      exact ⟨rfl, HBL.out⟩
end Go.Proofs.Ytnimidkeoocchaa.PG
