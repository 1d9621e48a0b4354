/- The law function MarkKeeps: what it answers. -/
import Derived.Test.YtnimidkeoocchaaMarkNeed
set_option linter.unusedVariables false
set_option linter.unusedSimpArgs false
namespace Go.Proofs.Ytnimidkeoocchaa.PK
open Go.RowKit Go.Proofs.YtnimidkeoocchaaW.PrintWords Go.Proofs.YtnimidkeoocchaaW.PrintLast Go.Proofs.YtnimidkeoocchaaW.PrintMore Go.Proofs.Ytnimidkeoocchaa.Hnd Go.Proofs.Ytnimidkeoocchaa.Mrk Go.Proofs.Ytnimidkeoocchaa.Rch
attribute [local go_sem] max2_int min2_int max_two min_two max_three min_three max_four min_four   -- for this text's walks alone

open Classical in
noncomputable def backstitchkeep3_MarkKeeps.f (k : Nat) (a0 : Int) (l1 : List Deed) : Option Bool := if deedsOk l1 then some true else none
set_option maxHeartbeats 16000000 in
set_option maxRecDepth 100000 in
theorem backstitchkeep3_MarkKeeps.calls (k : Nat) (a0 : Int) (A1 : Option Addr) (c1 : Nat) (l1 : List Deed) (r : Bool) (w : World) (hr1 : Kd.C k31 w A1 l1.length l1) (hc1 : l1.length ≤ c1) (h : backstitchkeep3_MarkKeeps.f k a0 l1 = some r) :
    Calls Try.prog 8 #[.int .i64 a0, .slice A1 l1.length c1] w fun e w' => e = .returned (.bool r) ∧ Below w.heap.size w w' := by
  unfold backstitchkeep3_MarkKeeps.f at h
  have hok : deedsOk l1 := by
    by_cases hx : deedsOk l1
    · exact hx
    · rw [if_neg hx] at h; exact absurd h (by simp)
  rw [if_pos hok] at h
  obtain rfl := Option.some.inj h
  have HR0 : Aside0 (Kd.C k31 w A1 (l1.take 100).length (l1.take 100)) := ⟨by
    have h_ := Kd.C_take hr1 (m := min l1.length 100) (by omega)
    rwa [take_minN 100 l1] at h_⟩
  have HDO : Aside0 (∀ x ∈ l1.take 100, x.f3 ≤ 9223372036854775807) := ⟨fun x hx => hok x (List.mem_of_mem_take hx)⟩
  have HLEN : Aside0 (((l1.take 100).length : Int) = min (l1.length : Int) 100) := ⟨by rw [List.length_take]; omega⟩
  have HCC := Aside0.mk hc1
  obtain ⟨q, hq, hq2⟩ := rest2 a0
  have HQ := Aside0.mk hq
  clear hr1 hc1 h hok hq
  generalize hl : l1.take 100 = l at HR0 HDO HLEN
  have HSML : Aside0 (l.length ≤ 100) := ⟨by rw [← hl, List.length_take]; omega⟩
  clear hl
  obtain ⟨kd, hkd⟩ : ∃ kd, kd = 1 + q := ⟨_, rfl⟩
  have hw1 : wrap64 (1 + q) = kd := by unfold wrap64; omega
  have HKD : Aside0 (kd = 1 ∨ kd = 2) := ⟨by omega⟩
  clear hq2 hkd
  go_enter Try.func8, Try.ntmps8
  go_wp2_with fail
  refine (marked_calls w).mono ?_
  rintro e w1 ⟨rfl, hb1⟩
  have HB1 := Aside0.mk hb1
  clear hb1
  go_wp2_with fail
  refine (backstitchref3_Rest.calls a0 2 q w1 HQ.out).mono ?_
  rintro e w2 ⟨rfl, hd2⟩
  have HB2 := Aside0.mk (below_step HB1.out hd2.below)
  clear hd2
  go_wp2_with fail
  refine (new_calls w2 kd HKD.out).mono ?_
  rintro e w3 ⟨rfl, hm3, hb3⟩
  have HS3 := Aside0.mk (MkO.new hm3 HB2.out hb3)
  clear hm3 hb3
  generalize w2.heap.size = g at HS3 ⊢
  go_wp2_with fail
  refine (marked_calls w3).mono ?_
  rintro e w4 ⟨rfl, hb4⟩
  have HS4 := Aside0.mk (HS3.out.up hb4)
  clear hb4 HS3
  go_upto_region 7 with fail
  go_cut [42, 43, 44] (fun s42 s43 s44 wx => s42 = .slice A1 l.length c1 ∧ s43 = .int .i64 (l.length : Int) ∧ s44 = .int .i64 0 ∧ wx = w4)
  case first =>
    by_cases h20 : (100 : Int) < (l1.length : Int)
    · have e20 : l.length = 100 := by have h_ := HLEN.out; omega
      have c20 : ((100 : Int) ≤ (c1 : Int)) = True := eq_true (by have h_ := HCC.out; omega)
      have d20 : decide ((100 : Int) < (l1.length : Int)) = true := decide_eq_true h20
      go_wp2_with fail
      go_meet
      exact ⟨by rw [e20], by rw [e20]; rfl, rfl, rfl⟩
    · have e20 : l.length = l1.length := by have h_ := HLEN.out; omega
      have c20 : ((l1.length : Int) ≤ (c1 : Int)) = True := eq_true (by have h_ := HCC.out; omega)
      go_wp2_with fail
      go_meet
      exact ⟨by rw [e20], by rw [e20], rfl, rfl⟩
  case rest =>
  obtain ⟨rfl, rfl, rfl, rfl⟩ := hcut
  go_wp2_with fail
  go_loopg [7, 44] l.length (fun kq v7 v44 W => ∃ (i : Nat) (mk : Bool) (l' : List Th) (ok : Nat → Prop) (AB : Option Addr) (cB : Nat) (B : List Bool), v44 = .int .i64 (i : Int) ∧ v7 = .slice AB B.length cB ∧ Aside0 (i ≤ l.length ∧ kq = l.length - i) ∧ Aside0 (MkO w W W.heap.size ok g kd mk l') ∧ Aside0 (Kd.R Kd.bool 4 W w.heap.size (fun k => ¬ ok k) (.slice AB B.length cB) B) ∧ Aside0 (K kd mk B l'))
  case atStart => exact ⟨0, false, [], _, none, 0, [], rfl, rfl, ⟨Nat.zero_le _, by omega⟩, HS4, ⟨Kd.R_nil _ _ _ _ _⟩, ⟨k_nil kd⟩⟩
  case round =>
    clear HS4
    obtain ⟨i, mk, l', ok, AB, cB, B, rfl, rfl, HIQ, HS, HRB, HK⟩ := hrel
    by_cases hlt : i < l.length
    · have hi0 : (0 : Int) ≤ (i : Int) := by omega
      have hi1 : (i : Int) < (l.length : Int) := by omega
      have hdec : decide ((i : Int) < (l.length : Int)) = true := decide_eq_true hi1
      have hdec2 : decide (i < l.length) = true := decide_eq_true hlt
      have HLT := Aside0.mk hlt
      have HW64 : Aside0 (wrap64 ((i : Int) + 1) = ((i + 1 : Nat) : Int)) := ⟨by have := HSML.out; unfold wrap64; omega⟩
      obtain ⟨ad, rfl, x0, x1, x2, x3⟩ := at_deed (Kd.C_below HR0.out HS.out.low) i hlt
      have HX3 : Aside0 ((l.getD i z31).f3 ≤ 9223372036854775807) := ⟨HDO.out _ (by simp [List.getD_eq_getElem?_getD, hlt])⟩
      generalize l.getD i z31 = x at x0 x1 x2 x3 HX3
      obtain ⟨d, a, b, n⟩ := x
      dsimp only at x0 x1 x2 x3 HX3
      have hbx := below_alloc (Below.refl wr.heap.size wr) (Obj.cells #[.int .i64 d, .int .i64 a, .int .i64 b, .int .i64 n] 31)
      have HO := Aside0.mk (HS.out.below hbx)
      have HT := Aside0.mk (blk_new wr (Obj.cells #[.int .i64 d, .int .i64 a, .int .i64 b, .int .i64 n] 31))
      have HRX := Aside0.mk (Kd.R_below HRB.out hbx)
      have HBD := Aside0.mk HS.out.bd
      have HNX : Aside0 (wr.heap.size < (wr.alloc (Obj.cells #[.int .i64 d, .int .i64 a, .int .i64 b, .int .i64 n] 31)).heap.size) := ⟨by simp⟩
      clear hbx hlt
      go_wp2_with fail
      refine (HO.out.marking).mono ?_
      rintro e w5 ⟨rfl, hb5⟩
      replace HO := Aside0.mk (HO.out.below hb5)
      replace HT := Aside0.mk (blk_below HT.out hb5)
      replace HRX := Aside0.mk (Kd.R_below HRX.out hb5)
      have HN5 : Aside0 (wr.heap.size < w5.heap.size) := ⟨Nat.lt_of_lt_of_le HNX.out hb5.size⟩
      clear hb5
      go_wp2_with fail
      refine (HO.out.graph).mono ?_
      rintro e w6 ⟨AH, cH, AR, cR, rfl, hh6, hr6, hb6⟩
      have hbx := below_alloc (Below.refl w6.heap.size w6) (Obj.cells #[.slice AH (graphL l').length cH, .slice AR (heldL l').length cR] 38)
      have hb7 := below_step hb6 hbx
      replace HO := Aside0.mk (HO.out.below hb7)
      replace HT := Aside0.mk (blk_below HT.out hb7)
      replace HRX := Aside0.mk (Kd.R_below HRX.out hb7)
      have HG := Aside0.mk (blk_new w6 (Obj.cells #[.slice AH (graphL l').length cH, .slice AR (heldL l').length cR] 38))
      have HRH := Aside0.mk (Kd.R_below hh6 hbx)
      have HRR := Aside0.mk (Kd.R_below hr6 hbx)
      have HN6 : Aside0 (wr.heap.size < w6.heap.size) := ⟨Nat.lt_of_lt_of_le HN5.out hb6.size⟩
      have HDC := Aside0.mk (HO.out.deed d a b n HX3.out)
      have HKO := Aside0.mk (do_k HKD.out HK.out d a b n)
      have HWT : Aside0 (d = 7 → (doL kd mk l' d a b n).err = 0 → ∀ k, k < B.length → B.getD k true = false → mk = true ∧ cl (doL kd mk l' d a b n).l k = 3) := ⟨fun e he k hk hu => by subst e; exact HK.out.went a b n he hk hu⟩
      have HOK := Aside0.mk HO.out.ok_
      have HWM : Aside0 (d = 7 → mk = true ∨ (doL kd mk l' d a b n).mk = false) := ⟨fun e => by subst e; exact end_mk kd mk l' a b n⟩
      generalize doL kd mk l' d a b n = o at HDC HKO HWT HWM
      have y0 := (blk_cell HT.out 0).trans rfl
      have y1 := (blk_cell HT.out 1).trans rfl
      have y2 := (blk_cell HT.out 2).trans rfl
      have y3 := (blk_cell HT.out 3).trans rfl
      clear hh6 hr6 hb6 hbx hb7
      go_wp2_with fail
      refine HDC.out.mono ?_
      rintro e w7 ⟨rfl, hs7, hf7⟩
      have HS7 := Aside0.mk hs7
      have HT7 := Aside0.mk (hf7.obj HT.out (fun h_ => by have := HBD.out _ h_; omega))
      have HG7 := Aside0.mk (hf7.obj HG.out (fun h_ => by have := HBD.out _ h_; have := HN6.out; omega))
      have HRB7 := Aside0.mk (R_apart HRX.out hf7)
      have HRH7 := Aside0.mk (R_deed HRH.out hf7 HBD.out (Nat.le_of_lt HN5.out))
      have HRR7 := Aside0.mk (R_deed HRR.out hf7 HBD.out (Nat.le_of_lt HN5.out))
      generalize hok7 : (fun k => (ok k ∨ (w6.alloc (Obj.cells #[.slice AH (graphL l').length cH, .slice AR (heldL l').length cR] 38)).heap.size ≤ k) ∧ k < w7.heap.size) = ok7 at HS7 HRB7
      have HRB8 : Aside0 (Kd.R Kd.bool 4 w7 w.heap.size (fun k => ¬ ok7 k) (.slice AB B.length cB) B) := ⟨by rw [← hok7]; exact HRB7.out⟩
      clear hs7 hf7 y0 y1 y2 y3 hok7 HRB7
      have HB7 := Aside0.mk HS7.out.low
      have HBD7 := Aside0.mk HS7.out.bd
      have HGI := Aside0.mk (graphL_in HOK.out)
      have HHI := Aside0.mk (heldL_in l')
      have HGZ : Aside0 ((graphL l').length ≤ 1000000) := ⟨by rw [graphL_len]; have := HOK.out.len; omega⟩
      have HNB : Aside0 (nextB mk o.mk B l' = if mk = false ∧ o.mk = true then fromL (graphL l') (heldL l') else B) := ⟨rfl⟩
      generalize graphL l' = gl at HG7 HRH7 HGI HHI HGZ HNB
      generalize heldL l' = hl at HG7 HRR7 HHI HNB
      clear HO HT HRX HRH HRR HG HDC HK HS HRB
      obtain ⟨mk', lo, many, err⟩ := o
      dsimp only at HS7 HKO HWT HWM HNB
      go_upto_region 13 with fail
      go_cut [63] (fun s63 wx => s63 = .bool (!mk && mk') ∧ Aside0 (Below w7.heap.size w7 wx))
      case first =>
        cases mk with
        | true =>
          go_wp2_with fail
          go_meet
          exact ⟨rfl, ⟨Below.refl _ _⟩⟩
        | false =>
          go_wp2_with fail
          refine (HS7.out.marking).mono ?_
          rintro e w8 ⟨rfl, hb8⟩
          have HB8 := Aside0.mk hb8
          clear hb8
          go_wp2_with fail
          go_meet
          exact ⟨by simp, HB8⟩
      case rest =>
      obtain ⟨rfl, HB8⟩ := hcut
      go_upto_if 63 with fail
      go_cut [7] (fun s7 wx => ∃ (AB : Option Addr) (cB : Nat) (B' : List Bool), s7 = .slice AB B'.length cB ∧ Aside0 (Below w7.heap.size w7 wx) ∧ Aside0 (Kd.R Kd.bool 4 wx w.heap.size (fun k => ¬ ok7 k) (.slice AB B'.length cB) B') ∧ Aside0 (B' = nextB mk mk' B l'))
      case first =>
        by_cases hc : mk = false ∧ mk' = true
        · obtain ⟨rfl, rfl⟩ := hc
          obtain ⟨_, h1, h2⟩ := Kd.R_reads' (Kd.R_below HRH7.out HB8.out)
          obtain ⟨_, h3, h4⟩ := Kd.R_reads' (Kd.R_below HRR7.out HB8.out)
          have HCALL := Aside0.mk (rfrom_calls _ AH cH gl AR hl.length cR AR cR hl h2 h4 h3 HGI.out HHI.out HGZ.out)
          have HGB := Aside0.mk (blk_below HG7.out HB8.out)
          have g0 := (blk_cell HGB.out 0).trans rfl
          have g1 := (blk_cell HGB.out 1).trans rfl
          have HNB2 : Aside0 (nextB false true B l' = fromL gl hl) := ⟨by rw [HNB.out]; rfl⟩
          obtain ⟨B2, hB2⟩ : ∃ B2, B2 = fromL gl hl := ⟨_, rfl⟩
          rw [← hB2] at HCALL HNB2
          clear h1 h2 h3 h4 hB2
          go_wp2_with fail
          refine HCALL.out.mono ?_
          rintro e w9 ⟨v9, rfl, hR9, hb9⟩
          obtain ⟨A9, c9, e9⟩ := Kd.R_slice hR9
          subst e9
          have HR9 := Aside0.mk (R_newer hR9 HBD7.out HB8.out.size (Nat.le_trans HB7.out.size HB8.out.size))
          have HB9 := Aside0.mk (below_step HB8.out hb9)
          clear hR9 hb9
          go_wp2_with fail
          go_meet
          exact ⟨_, _, _, rfl, HB9, HR9, ⟨HNB2.out.symm⟩⟩
        · have hf : (!mk && mk') = false := nn_of hc
          have HNB2 : Aside0 (nextB mk mk' B l' = B) := ⟨by rw [HNB.out, if_neg hc]⟩
          have HR9 := Aside0.mk (Kd.R_below HRB8.out HB8.out)
          rw [hf]
          clear hc hf
          go_wp2_with fail
          go_meet
          exact ⟨_, _, _, rfl, HB8, HR9, ⟨HNB2.out.symm⟩⟩
      case rest =>
      obtain ⟨AB2, cB2, B2, rfl, HB9, HR9, HNE⟩ := hcut
      clear HB8 HNB HGI HHI HGZ HRH7 HRR7 HG7 HRB8
      rw [← HNE.out] at HKO
      have HO9 := Aside0.mk (HS7.out.below HB9.out)
      have HT9 := Aside0.mk (blk_below HT7.out HB9.out)
      have HOK2 := Aside0.mk HS7.out.ok_
      go_wp2_with fail
      refine (HO9.out.graph).mono ?_
      rintro e w10 ⟨AH2, cH2, AR2, cR2, rfl, hh10, hr10, hb10⟩
      have hbx := below_alloc (Below.refl w10.heap.size w10) (Obj.cells #[.slice AH2 (graphL lo).length cH2, .slice AR2 (heldL lo).length cR2] 38)
      have hb11 := below_step hb10 hbx
      have HO11 := Aside0.mk (HO9.out.below hb11)
      have HT11 := Aside0.mk (blk_below HT9.out hb11)
      have HR11 := Aside0.mk (Kd.R_below HR9.out hb11)
      have HG11 := Aside0.mk (blk_new w10 (Obj.cells #[.slice AH2 (graphL lo).length cH2, .slice AR2 (heldL lo).length cR2] 38))
      have HRH11 := Aside0.mk (Kd.R_below hh10 hbx)
      have HRR11 := Aside0.mk (Kd.R_below hr10 hbx)
      clear hh10 hr10 hb10 hbx hb11
      go_wp2_with fail
      refine (HO11.out.colours).mono ?_
      rintro e w12 ⟨v12, rfl, hR12, hb12⟩
      obtain ⟨A12, c12, e12⟩ := Kd.R_slice hR12
      subst e12
      have HO12 := Aside0.mk (HO11.out.below hb12)
      have HT12 := Aside0.mk (blk_below HT11.out hb12)
      have HR12 := Aside0.mk (Kd.R_below HR11.out hb12)
      have HG12 := Aside0.mk (blk_below HG11.out hb12)
      have HC12 := Aside0.mk (Kd.R_reads' hR12).2.2
      obtain ⟨_, h1, h2⟩ := Kd.R_reads' (Kd.R_below HRH11.out hb12)
      obtain ⟨_, h3, h4⟩ := Kd.R_reads' (Kd.R_below HRR11.out hb12)
      have HND := Aside0.mk (neededIn_calls w12 AH2 cH2 (graphL lo) AR2 cR2 (heldL lo) h2 h4 h3 (graphL_in HOK2.out) (heldL_in lo) (by rw [graphL_len]; have := HOK2.out.len; omega))
      have g0 := (blk_cell HG12.out 0).trans rfl
      have g1 := (blk_cell HG12.out 1).trans rfl
      have HNL : Aside0 (∀ x ∈ rise (fromL (graphL lo) (heldL lo)), 0 ≤ x ∧ x < ((col lo).length : Int) ∧ (col lo).getD x.toNat 0 ≠ 3) := ⟨fun x hx => by
        have h_ := mem_rise.1 hx
        have hl_ := needL_len lo
        unfold needL at hl_
        rw [hl_] at h_
        have h2_ := HKO.out.kept (k := x.toNat) (by omega) h_.2
        refine ⟨h_.1.1, by unfold col; simpa using h_.1.2, ?_⟩
        unfold cl at h2_
        rw [col_at]
        exact h2_⟩
      have HNZ : Aside0 ((rise (fromL (graphL lo) (heldL lo))).length ≤ 1000) := ⟨by
        have h_ := rise_length (fromL (graphL lo) (heldL lo))
        rw [fromL_length, graphL_len] at h_
        have := HOK2.out.len
        omega⟩
      generalize rise (fromL (graphL lo) (heldL lo)) = nd at HND HNL HNZ
      clear hR12 hb12 h1 h2 h3 h4
      go_wp2_with fail
      refine HND.out.mono ?_
      rintro e w13 ⟨v13, rfl, hR13, hb13⟩
      obtain ⟨A13, c13, e13⟩ := Kd.R_slice hR13
      subst e13
      have HN13 := Aside0.mk (Kd.R_reads' hR13).2.2
      have HO13 := Aside0.mk (HO12.out.below hb13)
      have HT13 := Aside0.mk (blk_below HT12.out hb13)
      have HR13 := Aside0.mk (Kd.R_below HR12.out hb13)
      have HC13 := Aside0.mk (Kd.C_below HC12.out hb13)
      have HCO : Aside0 (∀ k, k < B2.length → k < (col lo).length ∧ (d = 7 → err = 0 → B2.getD k true = false → (col lo).getD k 0 = 3)) := ⟨fun k hk => by
        have hlen := HKO.out.len
        refine ⟨by unfold col; simp; omega, fun e7 e0 hu => ?_⟩
        rw [col_at]
        have hn := HNE.out
        by_cases hB : mk = false ∧ mk' = true
        · exact absurd hB (nn_no (HWM.out e7))
        · unfold nextB at hn
          rw [if_neg hB] at hn
          subst hn
          exact (HWT.out e7 e0 k hk hu).2⟩
      generalize col lo = cs at HC13 HNL HCO
      clear hR13 hb13 g0 g1 HND HC12 HR12 HR11 HR9
      go_wp2_with fail
      go_loopg [75] nd.length (fun kq v75 W => ∃ (j : Nat), v75 = .int .i64 (j : Int) ∧ Aside0 (j ≤ nd.length ∧ kq = nd.length - j) ∧ W = w13)
      case atStart => exact ⟨0, rfl, ⟨Nat.zero_le _, by omega⟩, rfl⟩
      case round =>
        obtain ⟨j, rfl, HJQ, rfl⟩ := hrel
        by_cases hjt : j < nd.length
        · have hj0 : (0 : Int) ≤ (j : Int) := by omega
          have hj1 : (j : Int) < (nd.length : Int) := by omega
          obtain ⟨ad3, e, hx⟩ := Kd.at_int HN13.out (j : Int) hj0 hj1
          rw [Int.toNat_natCast, rdI' hjt] at hx
          subst e
          have hy := HNL.out _ (List.getElem_mem hjt)
          have hdec : decide ((j : Int) < (nd.length : Int)) = true := decide_eq_true hj1
          have hdec2 : decide (j < nd.length) = true := decide_eq_true hjt
          have HJT := Aside0.mk hjt
          generalize nd[j] = y at hx hy
          obtain ⟨hy0, hy1, hy2⟩ := hy
          obtain ⟨ad4, e, hz⟩ := Kd.at_int HC13.out y hy0 hy1
          subst e
          have hrd : rd cs y = cs.getD y.toNat 0 := rfl
          rw [hrd] at hz
          have hne : (cs.getD y.toNat 0 == 3) = false := by simpa using hy2
          generalize cs.getD y.toNat 0 = z at hz hne
          have HW65 : Aside0 (wrap64 ((j : Int) + 1) = ((j + 1 : Nat) : Int)) := ⟨by have := HNZ.out; unfold wrap64; omega⟩
          clear hy2 hrd hjt
          go_wp2_with fail
          go_roundg (nd.length - (j + 1))
          case measure => have := HJQ.out; have := HJT.out; omega
          case rel => exact ⟨j + 1, by first | rfl | rw [HW65.out], ⟨by have := HJT.out; omega, rfl⟩, rfl⟩
        · have e_ : j = nd.length := by have := HJQ.out; omega
          subst e_
          have hdec : decide ((nd.length : Int) < (nd.length : Int)) = false := decide_eq_false (by omega)
          have hdec2 : decide (nd.length < nd.length) = false := decide_eq_false hjt
          have t0 := (blk_cell HT13.out 0).trans rfl
          clear hjt HJQ
          have HUP := Aside0.mk (HO13.out.up (Below.refl _ _))
          by_cases h7 : d = 7 ∧ err = 0
          · obtain ⟨rfl, rfl⟩ := h7
            have HCB := Aside0.mk (Kd.R_reads' HR13.out).2.2
            have HBZ : Aside0 (B2.length ≤ 9223372036854775807) := ⟨HCB.out.2.1⟩
            go_wp2_with fail
            go_loopg [94] B2.length (fun kq v94 W => ∃ (j : Nat), v94 = .int .i64 (j : Int) ∧ Aside0 (j ≤ B2.length ∧ kq = B2.length - j) ∧ W = wr)
            case atStart => exact ⟨0, rfl, ⟨Nat.zero_le _, by omega⟩, rfl⟩
            case round =>
              obtain ⟨j, rfl, HJQ, rfl⟩ := hrel
              by_cases hjt : j < B2.length
              · have hj0 : (0 : Int) ≤ (j : Int) := by omega
                have hj1 : (j : Int) < (B2.length : Int) := by omega
                have hdec : decide ((j : Int) < (B2.length : Int)) = true := decide_eq_true hj1
                have hdec2 : decide (j < B2.length) = true := decide_eq_true hjt
                obtain ⟨ad3, e, hx⟩ := Kd.at_bool HCB.out (j : Int) hj0 hj1
                subst e
                have hrd : rdOf false B2 (j : Int) = B2.getD j false := by unfold rdOf; simp
                rw [hrd, Int.toNat_natCast] at hx
                obtain ⟨hk1, hk2⟩ := HCO.out j hjt
                have hk3 : (j : Int) < (cs.length : Int) := by omega
                obtain ⟨ad4, e, hz⟩ := Kd.at_int HC13.out (j : Int) hj0 hk3
                subst e
                have hrd2 : rd cs (j : Int) = cs.getD j 0 := by unfold rd; simp
                rw [hrd2, Int.toNat_natCast] at hz
                have HJT := Aside0.mk hjt
                have HW65 : Aside0 (wrap64 ((j : Int) + 1) = ((j + 1 : Nat) : Int)) := ⟨by have := HBZ.out; unfold wrap64; omega⟩
                cases hb : B2.getD j false with
                | true =>
                  rw [hb] at hx
                  clear hk1 hk2 hrd hrd2 hjt hb hz
                  go_wp2_with fail
                  go_roundg (B2.length - (j + 1))
                  case measure => have := HJQ.out; have := HJT.out; omega
                  case rel => exact ⟨j + 1, by first | rfl | rw [HW65.out], ⟨by have := HJT.out; omega, rfl⟩, rfl⟩
                | false =>
                  rw [hb] at hx
                  have h3 := hk2 (by first | trivial | rfl) (by first | trivial | rfl) (by rw [getD_true_false _ _ hjt]; exact hb)
                  rw [h3] at hz
                  clear hk1 hk2 hrd hrd2 hjt hb h3
                  go_wp2_with fail
                  go_roundg (B2.length - (j + 1))
                  case measure => have := HJQ.out; have := HJT.out; omega
                  case rel => exact ⟨j + 1, by first | rfl | rw [HW65.out], ⟨by have := HJT.out; omega, rfl⟩, rfl⟩
              · have e_ : j = B2.length := by have := HJQ.out; omega
                subst e_
                have hdec : decide ((B2.length : Int) < (B2.length : Int)) = false := decide_eq_false (by omega)
                have hdec2 : decide (B2.length < B2.length) = false := decide_eq_false hjt
                clear hjt HJQ
                go_wp2_with fail
                go_roundg (l.length - (i + 1))
                case measure => have := HIQ.out; have := HLT.out; omega
                case rel => exact ⟨i + 1, _, _, _, _, _, _, by first | rfl | rw [HW64.out], rfl, ⟨by have := HLT.out; omega, rfl⟩, HUP, HR13, HKO⟩
          · by_cases h8 : d = 7
            · have hb7 : (d == 7) = true := by simpa using h8
              have hb0 : (err == 0) = false := by simpa using fun h_ => h7 ⟨h8, h_⟩
              clear h7 h8
              go_wp2_with fail
              go_roundg (l.length - (i + 1))
              case measure => have := HIQ.out; have := HLT.out; omega
              case rel => exact ⟨i + 1, _, _, _, _, _, _, by first | rfl | rw [HW64.out], rfl, ⟨by have := HLT.out; omega, rfl⟩, HUP, HR13, HKO⟩
            · have hb7 : (d == 7) = false := by simpa using h8
              clear h7 h8
              go_wp2_with fail
              go_roundg (l.length - (i + 1))
              case measure => have := HIQ.out; have := HLT.out; omega
              case rel => exact ⟨i + 1, _, _, _, _, _, _, by first | rfl | rw [HW64.out], rfl, ⟨by have := HLT.out; omega, rfl⟩, HUP, HR13, HKO⟩
    · have e_ : i = l.length := by have := HIQ.out; omega
      subst e_
      have hdec : decide ((l.length : Int) < (l.length : Int)) = false := decide_eq_false (by omega)
      have hdec2 : decide (l.length < l.length) = false := decide_eq_false hlt
      have HBL := Aside0.mk HS.out.low
      clear hlt HIQ
      go_wp2_with fail
      go_ret
      exact ⟨rfl, HBL.out⟩
end Go.Proofs.Ytnimidkeoocchaa.PK
