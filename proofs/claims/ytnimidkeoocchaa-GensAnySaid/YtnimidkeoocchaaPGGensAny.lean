/- The law function GensAny: what it answers. -/
import Derived.Test.YtnimidkeoocchaaGenNeed
set_option linter.unusedVariables false
set_option linter.unusedSimpArgs false
namespace Go.Proofs.Ytnimidkeoocchaa.PG
open Go.RowKit Go.Proofs.YtnimidkeoocchaaW.PrintWords Go.Proofs.YtnimidkeoocchaaW.PrintLast Go.Proofs.YtnimidkeoocchaaW.PrintMore Go.Proofs.Ytnimidkeoocchaa.Hnd Go.Proofs.Ytnimidkeoocchaa.Gen Go.Proofs.Ytnimidkeoocchaa.Rch Go.Proofs.Ytnimidkeoocchaa.Ir
attribute [local go_sem] max2_int min2_int max_two min_two max_three min_three max_four min_four   -- for this text's walks alone

theorem eq_same (w : World) {A : Option Addr} {c : Nat} {x : List Int} {A' : Option Addr} {c' : Nat} (h1 : (Kd.int .i64).C w A x.length x) (hc : x.length ≤ c) (h2 : (Kd.int .i64).C w A' x.length x) (hc' : x.length ≤ c') (hl : x.length ≤ 1000000) :
    Calls Try.prog 22 #[.slice A x.length c, .slice A' x.length c'] w fun e w' => e = .returned (.bool true) ∧ Below w.heap.size w w' :=
  (eq_calls w h1 hc h2 hc' hl).mono (fun e w' h => ⟨by rw [h.1]; simp, h.2⟩)
theorem R_C2 {W : World} {B : Nat} {ok : Nat → Prop} {A : Option Addr} {c n : Nat} {x : List (List Int)} (h : KH.R 29 W B ok (.slice A n c) x) : KH.C W A x.length x ∧ x.length ≤ c := by
  obtain ⟨h1, h2, h3⟩ := Kd.R_reads' h
  exact ⟨h3, by omega⟩
theorem graph_at (l : List Th) (n : Nat) : (graphL l).getD n [] = ((thAt l n).f0).filter posI := by
  unfold graphL
  rw [List.getD_eq_getElem?_getD, List.getElem?_map]
  by_cases hlt : n < l.length
  · rw [List.getElem?_eq_getElem hlt, thAt_eq hlt]; rfl
  · rw [List.getElem?_eq_none (by omega), thAt_none hlt]; rfl
theorem graph_len (l : List Th) (h : OkL l) (n : Nat) : ((graphL l).getD n []).length ≤ 1000 := by
  rw [graph_at]
  by_cases hlt : n < l.length
  · exact Nat.le_trans (List.length_filter_le _ _) (h.at_ hlt).1
  · rw [thAt_none hlt]; simp
/-- Two heaps, each in blocks of its own. -/
structure Two (w0 W : World) (ok1 : Nat → Prop) (g1 : Nat) (n1 : Int) (l1 : List Th) (r1 : Int → Bool) (c1 : Nat) (ok2 : Nat → Prop) (g2 : Nat) (n2 : Int) (l2 : List Th) (r2 : Int → Bool) (c2 : Nat) : Prop where
  x : HpO w0 W W.heap.size ok1 g1 n1 l1 r1 c1
  y : HpO w0 W W.heap.size ok2 g2 n2 l2 r2 c2
  d : ∀ k, ok1 k → ¬ ok2 k
section
variable {w0 W W1 : World} {ok1 ok2 : Nat → Prop} {g1 g2 : Nat} {n1 n2 : Int} {l1 l2 : List Th} {r1 r2 : Int → Bool} {c1 c2 : Nat}
theorem Two.swap (h : Two w0 W ok1 g1 n1 l1 r1 c1 ok2 g2 n2 l2 r2 c2) : Two w0 W ok2 g2 n2 l2 r2 c2 ok1 g1 n1 l1 r1 c1 := ⟨h.y, h.x, fun k h2 h1 => h.d k h1 h2⟩
theorem Two.up (h : Two w0 W ok1 g1 n1 l1 r1 c1 ok2 g2 n2 l2 r2 c2) (hb : Below W.heap.size W W1) : Two w0 W1 ok1 g1 n1 l1 r1 c1 ok2 g2 n2 l2 r2 c2 := ⟨h.x.up hb, h.y.up hb, h.d⟩
theorem HpO.low1 {N : Nat} (h : HpO w0 W N ok1 g1 n1 l1 r1 c1) : ∀ k, ok1 k → w0.heap.size ≤ k := by
  obtain ⟨v, ps, mb, cn, h1, h2, h3, h4⟩ := h
  exact fun k hk => (h3 k hk).2
theorem HpO.raise {N : Nat} (h : HpO w0 W N ok1 g1 n1 l1 r1 c1) : HpO w0 W W.heap.size ok1 g1 n1 l1 r1 c1 := h.up (Below.refl _ _)
theorem Two.deed (h : Two w0 W ok1 g1 n1 l1 r1 c1 ok2 g2 n2 l2 r2 c2) (hc : c1 < 10000) (d a b n : Int) :
    Calls Try.prog 18 #[.pointer (some ⟨g1, 0, none⟩), .agg #[.int .i64 d, .int .i64 a, .int .i64 b, .int .i64 n]] W fun e w' => e = .returned (.tuple #[.int .i64 (doL n1 l1 r1 d a b n).many, .int .i64 (doL n1 l1 r1 d a b n).err]) ∧ (∃ ok1', Two w0 w' ok1' g1 n1 (doL n1 l1 r1 d a b n).l (doL n1 l1 r1 d a b n).rm (c1 + 1) ok2 g2 n2 l2 r2 c2) ∧ Fr ok1 W w' := by
  refine (h.x.deed hc d a b n).mono ?_
  rintro e w' ⟨he, hs, hf⟩
  refine ⟨he, ⟨_, hs, HpO.raise (h.y.else_ hf (fun k h2 h1 => h.d k h1 h2) (HpO.low1 h.x)), fun k h1 h2 => ?_⟩, hf⟩
  rcases h1.1 with h3 | h3
  · exact h.d k h3 h2
  · have := h.y.bd k h2; omega
end
def backstitchkeep3_GensAny.f (k : Nat) (a0 a1 : Int) (l1 : List Deed) : Option Bool := some true
set_option maxHeartbeats 16000000 in
set_option maxRecDepth 100000 in
theorem backstitchkeep3_GensAny.calls (k : Nat) (a0 a1 : Int) (A1 : Option Addr) (c1 : Nat) (l1 : List Deed) (r : Bool) (w : World) (hr2 : Kd.C k31 w A1 l1.length l1) (hc2 : l1.length ≤ c1) (h : backstitchkeep3_GensAny.f k a0 a1 l1 = some r) :
    Calls Try.prog 4 #[.int .i64 a0, .int .i64 a1, .slice A1 l1.length c1] w fun e w' => e = .returned (.bool r) ∧ Below w.heap.size w w' := by
  unfold backstitchkeep3_GensAny.f at h
  obtain rfl := Option.some.inj h
  have HR0 : Aside0 (Kd.C k31 w A1 (l1.take 80).length (l1.take 80)) := ⟨by
    have h_ := Kd.C_take hr2 (m := min l1.length 80) (by omega)
    rwa [take_minN 80 l1] at h_⟩
  have HLEN : Aside0 (((l1.take 80).length : Int) = min (l1.length : Int) 80) := ⟨by rw [List.length_take]; omega⟩
  have HCC := Aside0.mk hc2
  obtain ⟨q, hq, hq0, hq1⟩ := rest10 a0
  obtain ⟨q2, hq2, hq20, hq21⟩ := rest10 a1
  have HQ := Aside0.mk hq
  have HQ2 := Aside0.mk hq2
  clear hr2 hc2 h hq hq2
  generalize hl : l1.take 80 = l at HR0 HLEN
  have HSML : Aside0 (l.length ≤ 80) := ⟨by rw [← hl, List.length_take]; omega⟩
  clear hl
  obtain ⟨nur, hnur⟩ : ∃ nur, nur = 1 + q := ⟨_, rfl⟩
  have hw1 : wrap64 (1 + q) = nur := by unfold wrap64; omega
  have HN1 : Aside0 (1 ≤ nur) := ⟨by omega⟩
  have HN2 : Aside0 (nur ≤ 100) := ⟨by omega⟩
  obtain ⟨nur2, hnur2⟩ : ∃ nur, nur = 1 + q2 := ⟨_, rfl⟩
  have hw2 : wrap64 (1 + q2) = nur2 := by unfold wrap64; omega
  have HM1 : Aside0 (1 ≤ nur2) := ⟨by omega⟩
  have HM2 : Aside0 (nur2 ≤ 100) := ⟨by omega⟩
  clear hq0 hq1 hnur hq20 hq21 hnur2
  go_enter Try.func4, Try.ntmps4
  go_wp2_with fail
  refine (fact_calls w).mono ?_
  rintro e w1 ⟨rfl, hb1⟩
  have HB1 := Aside0.mk hb1
  clear hb1
  go_wp2_with fail
  refine (backstitchref3_Rest.calls a0 10 q w1 HQ.out).mono ?_
  rintro e w2 ⟨rfl, hd2⟩
  have HB2 := Aside0.mk (below_step HB1.out hd2.below)
  clear hd2
  go_wp2_with fail
  refine (new_calls w2 nur HN1.out HN2.out).mono ?_
  rintro e w3 ⟨rfl, hm3, hb3⟩
  have HX3 := Aside0.mk (HpO.new HN1.out hm3 HB2.out hb3)
  have HB3 := Aside0.mk (below_step HB2.out hb3)
  generalize hokd : (fun k => k = w2.heap.size + 1 ∨ k = w2.heap.size) = ok1 at HX3
  clear hm3 hb3 hokd
  generalize w2.heap.size + 1 = g1 at HX3 ⊢
  go_wp2_with fail
  refine (backstitchref3_Rest.calls a1 10 q2 w3 HQ2.out).mono ?_
  rintro e w4 ⟨rfl, hd4⟩
  have HB4 := Aside0.mk (below_step HB3.out hd4.below)
  have HX4 := Aside0.mk (HX3.out.up hd4.below)
  clear hd4
  go_wp2_with fail
  refine (new_calls w4 nur2 HM1.out HM2.out).mono ?_
  rintro e w5 ⟨rfl, hm5, hb5⟩
  have HTW : Aside0 (∃ okk, Two w w5 ok1 g1 nur [] (fun _ => false) 0 okk (w4.heap.size + 1) nur2 [] (fun _ => false) 0) := ⟨⟨_, HX4.out.up hb5, HpO.new HM1.out hm5 HB4.out hb5, fun k h1 h2 => by
    have h3 := HX4.out.bd k h1
    rcases h2 with h2 | h2 <;> omega⟩⟩
  obtain ⟨ok2, htw⟩ := HTW.out
  have HTW5 := Aside0.mk htw
  clear hm5 hb5 htw HTW HX3 HX4
  generalize w4.heap.size + 1 = g2 at HTW5 ⊢
  go_wp2_with fail
  refine (fact_calls w5).mono ?_
  rintro e w6 ⟨rfl, hb6⟩
  have HTW6 := Aside0.mk (HTW5.out.up hb6)
  clear hb6 HTW5
  go_upto_region 7 with fail
  go_cut [59, 60, 61] (fun s42 s43 s44 wx => s42 = .slice A1 l.length c1 ∧ s43 = .int .i64 (l.length : Int) ∧ s44 = .int .i64 0 ∧ wx = w6)
  case first =>
    by_cases h20 : (80 : Int) < (l1.length : Int)
    · have e20 : l.length = 80 := by have h_ := HLEN.out; omega
      have c20 : ((80 : Int) ≤ (c1 : Int)) = True := eq_true (by have h_ := HCC.out; omega)
      have d20 : decide ((80 : Int) < (l1.length : Int)) = true := decide_eq_true h20
      go_wp2_with fail
      go_meet
      exact ⟨by rw [e20], by rw [e20]; rfl, rfl, rfl⟩
    · have e20 : l.length = l1.length := by have h_ := HLEN.out; omega
      have c20 : ((l1.length : Int) ≤ (c1 : Int)) = True := eq_true (by have h_ := HCC.out; omega)
      go_wp2_with fail
      go_meet
      exact ⟨by rw [e20], by rw [e20], rfl, rfl⟩
  case rest =>
  obtain ⟨rfl, rfl, rfl, rfl⟩ := hcut
  go_wp2_with fail
  go_loopg [61] l.length (fun kq v61 W => ∃ (i : Nat) (la lb : List Th) (ra rb : Int → Bool) (oka okb : Nat → Prop) (ca cb : Nat), v61 = .int .i64 (i : Int) ∧ Aside0 (i ≤ l.length ∧ kq = l.length - i) ∧ Aside0 (Two w W oka g1 nur la ra ca okb g2 nur2 lb rb cb) ∧ Aside0 (Sim la lb ∧ ca ≤ 2 * i ∧ cb ≤ 2 * i))
  case atStart => exact ⟨0, [], [], _, _, _, _, _, _, rfl, ⟨Nat.zero_le _, by omega⟩, HTW6, ⟨Sim.refl _, Nat.le_refl _, Nat.le_refl _⟩⟩
  case round =>
    clear HTW6
    obtain ⟨i, la, lb, ra, rb, oka, okb, ca, cb, rfl, HIQ, HTW, HSI⟩ := hrel
    by_cases hlt : i < l.length
    · have hi0 : (0 : Int) ≤ (i : Int) := by omega
      have hi1 : (i : Int) < (l.length : Int) := by omega
      have hdec : decide ((i : Int) < (l.length : Int)) = true := decide_eq_true hi1
      have hdec2 : decide (i < l.length) = true := decide_eq_true hlt
      have HLT := Aside0.mk hlt
      have HCA : Aside0 (ca < 9000 ∧ cb < 9000) := ⟨by have := HSML.out; have := HSI.out.2; omega⟩
      have HW64 : Aside0 (wrap64 ((i : Int) + 1) = ((i + 1 : Nat) : Int)) := ⟨by have := HSML.out; unfold wrap64; omega⟩
      obtain ⟨ad, rfl, x0, x1, x2, x3⟩ := at_deed (Kd.C_below HR0.out HTW.out.x.low) i hlt
      generalize l.getD i z31 = x at x0 x1 x2 x3
      obtain ⟨d, a, b, n⟩ := x
      dsimp only at x0 x1 x2 x3
      have hbx := below_alloc (Below.refl wr.heap.size wr) (Obj.cells #[.int .i64 d, .int .i64 a, .int .i64 b, .int .i64 n] 31)
      have HO := Aside0.mk (HTW.out.up hbx)
      have HT := Aside0.mk (blk_new wr (Obj.cells #[.int .i64 d, .int .i64 a, .int .i64 b, .int .i64 n] 31))
      have HBX := Aside0.mk HTW.out.x.bd
      have HBY := Aside0.mk HTW.out.y.bd
      have HDC := Aside0.mk (HO.out.deed (by have := HCA.out; omega) d a b n)
      have HGA := Aside0.mk HTW.out.x.gi
      have HGB := Aside0.mk HTW.out.y.gi
      have HCO : Aside0 (d = 6 ∨ d = 7 → Sim la (doL nur la ra d a b n).l) := ⟨fun hd => (do_coll HGA.out d a b n hd).1⟩
      have HDS : Aside0 (d ≠ 6 → d ≠ 7 → (doL nur la ra d a b n).many = (doL nur2 lb rb d a b n).many ∧ (doL nur la ra d a b n).err = (doL nur2 lb rb d a b n).err ∧ Sim (doL nur la ra d a b n).l (doL nur2 lb rb d a b n).l) := ⟨fun h6 h7 => do_sim HSI.out.1 HGA.out HGB.out d a b n h6 h7⟩
      generalize doL nur la ra d a b n = o at HDC HCO HDS
      have y0 := (blk_cell HT.out 0).trans rfl
      have y1 := (blk_cell HT.out 1).trans rfl
      have y2 := (blk_cell HT.out 2).trans rfl
      have y3 := (blk_cell HT.out 3).trans rfl
      clear hbx hlt HTW
      by_cases hdd : d = 6
      · subst hdd
        have HSIM := Aside0.mk (HCO.out (by decide))
        clear HCO HDS
        go_wp2_with fail
        refine HDC.out.mono ?_
        rintro e w7 ⟨rfl, ⟨oka2, htw7⟩, hf7⟩
        have HTW7 := Aside0.mk htw7
        clear htw7 hf7
        go_wp2_with fail
        go_roundg (l.length - (i + 1))
        case measure => have := HIQ.out; have := HLT.out; omega
        case rel => exact ⟨i + 1, _, _, _, _, _, _, _, _, by first | rfl | rw [HW64.out], ⟨by have := HLT.out; omega, rfl⟩, HTW7, ⟨HSIM.out.symm.trans HSI.out.1, by have := HSI.out.2; omega, by have := HSI.out.2; omega⟩⟩
      have hne6 := hdd
      clear hdd
      by_cases hdd : d = 7
      · subst hdd
        have HSIM := Aside0.mk (HCO.out (by decide))
        clear HCO HDS
        go_wp2_with fail
        refine HDC.out.mono ?_
        rintro e w7 ⟨rfl, ⟨oka2, htw7⟩, hf7⟩
        have HTW7 := Aside0.mk htw7
        clear htw7 hf7
        go_wp2_with fail
        go_roundg (l.length - (i + 1))
        case measure => have := HIQ.out; have := HLT.out; omega
        case rel => exact ⟨i + 1, _, _, _, _, _, _, _, _, by first | rfl | rw [HW64.out], ⟨by have := HLT.out; omega, rfl⟩, HTW7, ⟨HSIM.out.symm.trans HSI.out.1, by have := HSI.out.2; omega, by have := HSI.out.2; omega⟩⟩
      have hne7 := hdd
      clear hdd
      have hd6 : (d == 6) = false := by simpa using hne6
      have hd7 : (d == 7) = false := by simpa using hne7
      obtain ⟨hmany, herr, hsim⟩ := HDS.out hne6 hne7
      have HDY : Aside0 (∀ {W : World} {oka' : Nat → Prop} {la' : List Th} {ra' : Int → Bool} {ca' : Nat}, Two w W oka' g1 nur la' ra' ca' okb g2 nur2 lb rb cb → Calls Try.prog 18 #[.pointer (some ⟨g2, 0, none⟩), .agg #[.int .i64 d, .int .i64 a, .int .i64 b, .int .i64 n]] W fun e w' => e = .returned (.tuple #[.int .i64 (doL nur2 lb rb d a b n).many, .int .i64 (doL nur2 lb rb d a b n).err]) ∧ (∃ ok2', Two w w' oka' g1 nur la' ra' ca' ok2' g2 nur2 (doL nur2 lb rb d a b n).l (doL nur2 lb rb d a b n).rm (cb + 1))) := ⟨fun h => (h.swap.deed (by have := HCA.out; omega) d a b n).mono (fun e w' h => ⟨h.1, by obtain ⟨ok', h2⟩ := h.2.1; exact ⟨ok', h2.swap⟩⟩)⟩
      have HSIM := Aside0.mk hsim
      have HMO := Aside0.mk (And.intro hmany herr)
      have HGB2 := Aside0.mk (do_gi HGB.out HM1.out d a b n)
      generalize doL nur2 lb rb d a b n = o2 at HDY HSIM HMO HGB2
      clear hmany herr hsim HCO HDS hne6 hne7
      go_wp2_with fail
      refine HDC.out.mono ?_
      rintro e w7 ⟨rfl, ⟨oka2, htw7⟩, hf7⟩
      have HTW7 := Aside0.mk htw7
      have HT7 := Aside0.mk (hf7.obj HT.out (fun h_ => by have := HBX.out _ h_; omega))
      obtain ⟨la2, ra2, many, err⟩ := o
      obtain ⟨lb2, rb2, many2, err2⟩ := o2
      dsimp only at HTW7 HDY HSIM HMO HGB2
      obtain ⟨rfl, rfl⟩ : many = many2 ∧ err = err2 := HMO.out
      have HDZ := Aside0.mk (HDY.out HTW7.out)
      clear htw7 hf7 y0 y1 y2 y3 HDC HT HO HMO HDY
      have y0 := (blk_cell HT7.out 0).trans rfl
      have y1 := (blk_cell HT7.out 1).trans rfl
      have y2 := (blk_cell HT7.out 2).trans rfl
      have y3 := (blk_cell HT7.out 3).trans rfl
      go_wp2_with fail
      refine HDZ.out.mono ?_
      rintro e w8 ⟨rfl, ⟨okb2, htw8⟩⟩
      have HTW8 := Aside0.mk htw8
      have hmm : (many != many) = false := by simp
      have hee : (err != err) = false := by simp
      clear htw8 y0 y1 y2 y3 HT7 HDZ
      have HDM := Aside0.mk (HTW8.out.swap.deed (by have := HCA.out; omega) 6 0 0 0)
      have HSM : Aside0 (Sim lb2 (doL nur2 lb2 rb2 6 0 0 0).l) := ⟨(do_coll HGB2.out 6 0 0 0 (.inl rfl)).1⟩
      generalize doL nur2 lb2 rb2 6 0 0 0 = o3 at HDM HSM
      go_wp2_with fail
      · refine HDM.out.mono ?_
        rintro e w9 ⟨rfl, ⟨okb3, htw9⟩, hf9⟩
        have HTW9 := Aside0.mk htw9.swap
        clear htw9 hf9
        go_wp2_with fail
        go_roundg (l.length - (i + 1))
        case measure => have := HIQ.out; have := HLT.out; omega
        case rel => exact ⟨i + 1, _, _, _, _, _, _, _, _, by first | rfl | rw [HW64.out], ⟨by have := HLT.out; omega, rfl⟩, HTW9, ⟨HSIM.out.trans HSM.out, by have := HSI.out.2; omega, by have := HSI.out.2; omega⟩⟩
      · go_roundg (l.length - (i + 1))
        case measure => have := HIQ.out; have := HLT.out; omega
        case rel => exact ⟨i + 1, _, _, _, _, _, _, _, _, by first | rfl | rw [HW64.out], ⟨by have := HLT.out; omega, rfl⟩, HTW8, ⟨HSIM.out, by have := HSI.out.2; omega, by have := HSI.out.2; omega⟩⟩
    · have e_ : i = l.length := by have := HIQ.out; omega
      subst e_
      have hdec : decide ((l.length : Int) < (l.length : Int)) = false := decide_eq_false (by omega)
      have hdec2 : decide (l.length < l.length) = false := decide_eq_false hlt
      have HSIM := Aside0.mk HSI.out.1
      have HGA := Aside0.mk HTW.out.x.gi
      have HGB := Aside0.mk HTW.out.y.gi
      clear hlt HIQ HSI
      go_wp2_with fail
      refine (HTW.out.x.graph).mono ?_
      rintro e w5 ⟨AH, cH, AR, cR, rfl, hh5, hr5, hb5⟩
      have HTW5 := Aside0.mk (HTW.out.up hb5)
      go_wp2_with fail
      refine (HTW5.out.y.graph).mono ?_
      rintro e w8 ⟨AH2, cH2, AR2, cR2, rfl, hh8, hr8, hb8⟩
      have hheld : heldL lb = heldL la := HSIM.out.held
      have HND2 : Aside0 (rise (fromL (graphL lb) (heldL lb)) = rise (fromL (graphL la) (heldL la))) := ⟨congrArg rise (HSIM.out.need HGA.out.ok HGB.out.ok)⟩
      rw [hheld] at HND2 hr8 ⊢
      have hbx := below_alloc (Below.refl w8.heap.size w8) (Obj.cells #[.slice AH (graphL la).length cH, .slice AR (heldL la).length cR] 38)
      have hbx2 := below_alloc hbx (Obj.cells #[.slice AH2 (graphL lb).length cH2, .slice AR2 (heldL la).length cR2] 38)
      have HG9 := Aside0.mk (blk_alloc (blk_new w8 (Obj.cells #[.slice AH (graphL la).length cH, .slice AR (heldL la).length cR] 38)) (Obj.cells #[.slice AH2 (graphL lb).length cH2, .slice AR2 (heldL la).length cR2] 38))
      have HG2 := Aside0.mk (blk_new (w8.alloc (Obj.cells #[.slice AH (graphL la).length cH, .slice AR (heldL la).length cR] 38)) (Obj.cells #[.slice AH2 (graphL lb).length cH2, .slice AR2 (heldL la).length cR2] 38))
      rw [blk_size] at HG2
      have HLOW := Aside0.mk ((HTW5.out.up (below_step hb8 hbx2)).x.low)
      have HRH9 := Aside0.mk (R_C2 (Kd.R_below hh5 (below_step hb8 hbx2)))
      have HRR9 := Aside0.mk (R_C (Kd.R_below hr5 (below_step hb8 hbx2)))
      have HRH2 := Aside0.mk (R_C2 (Kd.R_below hh8 hbx2))
      have HRR2 := Aside0.mk (R_C (Kd.R_below hr8 hbx2))
      generalize hws : (w8.alloc (Obj.cells #[.slice AH (graphL la).length cH, .slice AR (heldL la).length cR] 38)).alloc (Obj.cells #[.slice AH2 (graphL lb).length cH2, .slice AR2 (heldL la).length cR2] 38) = ws at HG9 HG2 HRH9 HRR9 HRH2 HRR2 HLOW
      have HWS := Aside0.mk hws
      have HLL : Aside0 (la.length ≤ 100 ∧ lb.length = la.length) := ⟨HGA.out.len, HSIM.out.len⟩
      have HNA : Aside0 (∀ W, Below ws.heap.size ws W → Calls Try.prog 21 #[.agg #[.slice AH (graphL la).length cH, .slice AR (heldL la).length cR]] W fun e w' => ∃ A c, e = .returned (.slice A (rise (fromL (graphL la) (heldL la))).length c) ∧ (Kd.int .i64).R 3 w' W.heap.size (fun _ => True) (.slice A (rise (fromL (graphL la) (heldL la))).length c) (rise (fromL (graphL la) (heldL la))) ∧ Below W.heap.size W w') := ⟨fun W hW =>
        (neededIn_calls W AH cH (graphL la) AR cR (heldL la) (Kd.C_below HRH9.out.1 hW) (Kd.C_below HRR9.out.1 hW) HRR9.out.2.1 (graphL_in HGA.out.ok) (heldL_in la) (by rw [graphL_len]; have := HLL.out.1; omega)).mono (fun e w' h => by
          obtain ⟨v0, h1, h2, h3⟩ := h
          obtain ⟨A, c, e0⟩ := Kd.R_slice h2
          subst e0
          exact ⟨A, c, h1, h2, h3⟩)⟩
      have HNB : Aside0 (∀ W, Below ws.heap.size ws W → Calls Try.prog 21 #[.agg #[.slice AH2 (graphL lb).length cH2, .slice AR2 (heldL la).length cR2]] W fun e w' => ∃ A c, e = .returned (.slice A (rise (fromL (graphL la) (heldL la))).length c) ∧ (Kd.int .i64).R 3 w' W.heap.size (fun _ => True) (.slice A (rise (fromL (graphL la) (heldL la))).length c) (rise (fromL (graphL la) (heldL la))) ∧ Below W.heap.size W w') := ⟨fun W hW =>
        (neededIn_calls W AH2 cH2 (graphL lb) AR2 cR2 (heldL la) (Kd.C_below HRH2.out.1 hW) (Kd.C_below HRR2.out.1 hW) HRR2.out.2.1 (graphL_in HGB.out.ok) (by rw [graphL_len, HLL.out.2, ← graphL_len]; exact heldL_in la) (by rw [graphL_len]; have := HLL.out; omega)).mono (fun e w' h => by
          rw [HND2.out] at h
          obtain ⟨v0, h1, h2, h3⟩ := h
          obtain ⟨A, c, e0⟩ := Kd.R_slice h2
          subst e0
          exact ⟨A, c, h1, h2, h3⟩)⟩
      have HNM : Aside0 (∀ x : Int, x ∈ rise (fromL (graphL la) (heldL la)) → (0 ≤ x ∧ x < (la.length : Int)) ∧ Nd la x.toNat) := ⟨fun x hx => by
        rw [mem_rise] at hx
        have hl_ := needL_len la
        unfold needL at hl_
        rw [hl_] at hx
        exact ⟨hx.1, (need_iff HGA.out.ok (by omega)).1 hx.2⟩⟩
      have HNZ : Aside0 ((rise (fromL (graphL la) (heldL la))).length ≤ 100) := ⟨by
        have h_ := rise_length (fromL (graphL la) (heldL la))
        rw [fromL_length, graphL_len] at h_
        have := HLL.out.1
        omega⟩
      have HGR : Aside0 (∀ k, Nd la k → (graphL lb).getD k [] = (graphL la).getD k []) := ⟨fun k hk => HSIM.out.graph hk⟩
      have HGZ : Aside0 (∀ k, ((graphL la).getD k []).length ≤ 1000) := ⟨fun k => graph_len la HGA.out.ok k⟩
      have HG1L : Aside0 ((graphL la).length = la.length) := ⟨graphL_len la⟩
      have HG2L : Aside0 ((graphL lb).length = la.length) := ⟨by rw [graphL_len, HLL.out.2]⟩
      generalize rise (fromL (graphL la) (heldL la)) = nd at HNA HNB HNM HNZ
      generalize heldL la = hl at *
      generalize graphL la = gl at *
      generalize graphL lb = gl2 at *
      have g0 := (blk_cell HG9.out 0).trans rfl
      have g1 := (blk_cell HG9.out 1).trans rfl
      clear hh5 hr5 hb5 hh8 hr8 hbx hbx2 hb8 hheld hws HND2
      go_wp2_with fail
      rw [HWS.out]
      refine (HNA.out ws (Below.refl _ _)).mono ?_
      rintro e w16 ⟨A16, c16, rfl, hr16, hb16⟩
      have HR16 := Aside0.mk (R_C hr16)
      have HB16 := Aside0.mk hb16
      clear hr16 hb16 g0 g1 HWS
      go_wp2_with fail
      obtain ⟨wo, rfl⟩ : ∃ wo, wo = wr := ⟨wr, rfl⟩
      go_loopg [111] nd.length (fun kq v111 W => ∃ (j : Nat), v111 = .int .i64 (j : Int) ∧ Aside0 (j ≤ nd.length ∧ kq = nd.length - j) ∧ Aside0 (Below w16.heap.size w16 W))
      case atStart => exact ⟨0, rfl, ⟨Nat.zero_le _, by omega⟩, ⟨Below.refl _ _⟩⟩
      case round =>
        obtain ⟨j, rfl, HJQ, HBJ⟩ := hrel
        have HBW := Aside0.mk (below_step HB16.out HBJ.out)
        by_cases hjt : j < nd.length
        · have hj0 : (0 : Int) ≤ (j : Int) := by omega
          have hj1 : (j : Int) < (nd.length : Int) := by omega
          have hdecj : decide ((j : Int) < (nd.length : Int)) = true := decide_eq_true hj1
          have hdecj2 : decide (j < nd.length) = true := decide_eq_true hjt
          have HJT := Aside0.mk hjt
          have HJ64 : Aside0 (wrap64 ((j : Int) + 1) = ((j + 1 : Nat) : Int)) := ⟨by have h1_ := HJT.out; have h2_ := HNZ.out; unfold wrap64; omega⟩
          obtain ⟨adr, e, hx⟩ := Kd.at_int (Kd.C_below HR16.out.1 HBJ.out) (j : Int) hj0 hj1
          rw [Int.toNat_natCast, rdI _ _ hjt] at hx
          subst e
          have hnx := HNM.out nd[j] (List.getElem_mem hjt)
          generalize nd[j] = x at hx hnx
          obtain ⟨m, rfl⟩ : ∃ m : Nat, x = m := ⟨x.toNat, by omega⟩
          rw [Int.toNat_natCast] at hnx
          have hm1 : (m : Int) < (gl.length : Int) := by have := HG1L.out; omega
          have hm2 : (m : Int) < (gl2.length : Int) := by have := HG2L.out; omega
          have hm0 : (0 : Int) ≤ (m : Int) := by omega
          have hge : decide ((gl2.length : Int) ≤ (m : Int)) = false := decide_eq_false (by omega)
          have hge2 : decide (gl2.length ≤ m) = false := decide_eq_false (by omega)
          obtain ⟨adH, B, cB, rfl, z0, hzc, hzC⟩ := at_row (Kd.C_below HRH9.out.1 HBW.out) m (by omega)
          obtain ⟨adH2, B2, cB2, rfl, z2, hzc2, hzC2⟩ := at_row (Kd.C_below HRH2.out.1 HBW.out) m (by omega)
          have HZ := Aside0.mk (And.intro hzC hzc)
          rw [HGR.out m hnx.2] at z2 hzc2 hzC2
          have HZ2 := Aside0.mk (And.intro hzC2 hzc2)
          have HZL := Aside0.mk (HGZ.out m)
          generalize gl.getD m [] = row at z0 z2 HZ HZ2 HZL
          have g0 := (blk_cell (blk_below HG9.out HBW.out) 0).trans rfl
          have i0 := (blk_cell (blk_below HG2.out HBW.out) 0).trans rfl
          clear hzc hzC hzc2 hzC2 hjt hnx
          go_wp2_with fail
          refine start_ (n := 19) (S := fun w' => Below wr.heap.size wr w' ∧ w'.cell? ⟨w8.heap.size, 0, none⟩ = some (.slice (some adH) gl.length cH) ∧ w'.cell? (adH.add m) = some (.slice B row.length cB) ∧ w'.cell? ⟨w8.heap.size + 1, 0, none⟩ = some (.slice (some adH2) gl2.length cH2) ∧ w'.cell? (adH2.add m) = some (.slice B2 row.length cB2)) (ds := []) #[false, false, false, false, false, false, false, false, false, false, false, false, false, false, false, false, false, false, false] (by kernel_rfl) rfl rfl ⟨(below_drew (Below.refl _ _)), g0, z0, i0, z2⟩ (fun hHeld => ?_)
          generalize wr.drew = w19 at hHeld ⊢
          refine pure_ (i := 0) (N := some 115) (v := ?_) (a' := ?_) #[true, false, false, false, false, false, false, false, false, false, false, false, false, false, false, false, false, false, false] rfl rfl (by kernel_rfl) (fun _ _ _ h => h) (Or.inl ⟨by rfl, ?_⟩) ?_ ?_
          rotate_left
          · intro w'
            go_simp
            with_reducible rfl
          rotate_left
          · simp only [Act.put, List.setIfInBounds_toArray, List.set_cons_zero, List.set_cons_succ, i64_w, i32_w]
            rfl
          refine pure_ (i := 1) (N := some 116) (v := ?_) (a' := ?_) #[true, true, false, false, false, false, false, false, false, false, false, false, false, false, false, false, false, false, false] rfl rfl (by kernel_rfl) (fun _ _ _ h => h) (Or.inl ⟨by rfl, ?_⟩) ?_ ?_
          rotate_left
          · intro w'
            go_simp
            with_reducible rfl
          rotate_left
          · simp only [Act.put, List.setIfInBounds_toArray, List.set_cons_zero, List.set_cons_succ, i64_w, i32_w]
            rfl
          refine take_ (i := 2) (N := some 117) (v := ?_) (a' := ?_) #[true, true, true, false, false, false, false, false, false, false, false, false, false, false, false, false, false, false, false] rfl rfl (by kernel_rfl) (fun _ _ _ h => h) (Or.inl ⟨by rfl, ?_⟩) hHeld ?_ ?_
          rotate_left
          · rintro w' ⟨s0, s1, s2, s3, s4⟩
            go_simp
            with_reducible rfl
          rotate_left
          · simp only [Act.put, List.setIfInBounds_toArray, List.set_cons_zero, List.set_cons_succ, i64_w, i32_w]
            rfl
          refine pure_ (i := 3) (N := some 118) (v := ?_) (a' := ?_) #[true, true, true, true, false, false, false, false, false, false, false, false, false, false, false, false, false, false, false] rfl rfl (by kernel_rfl) (fun _ _ _ h => h) (Or.inl ⟨by rfl, ?_⟩) ?_ ?_
          rotate_left
          · intro w'
            go_simp
            with_reducible rfl
          rotate_left
          · simp only [Act.put, List.setIfInBounds_toArray, List.set_cons_zero, List.set_cons_succ, i64_w, i32_w]
            rfl
          refine pure_ (i := 4) (N := some 119) (v := ?_) (a' := ?_) #[true, true, true, true, true, false, false, false, false, false, false, false, false, false, false, false, false, false, false] rfl rfl (by kernel_rfl) (fun _ _ _ h => h) (Or.inl ⟨by rfl, ?_⟩) ?_ ?_
          rotate_left
          · intro w'
            go_simp
            with_reducible rfl
          rotate_left
          · simp only [Act.put, List.setIfInBounds_toArray, List.set_cons_zero, List.set_cons_succ, i64_w, i32_w]
            rfl
          refine pure_ (i := 5) (N := some 120) (v := ?_) (a' := ?_) #[true, true, true, true, true, true, false, false, false, false, false, false, false, false, false, false, false, false, false] rfl rfl (by kernel_rfl) (fun _ _ _ h => h) (Or.inl ⟨by rfl, ?_⟩) ?_ ?_
          rotate_left
          · intro w'
            go_simp
            with_reducible rfl
          rotate_left
          · simp only [Act.put, List.setIfInBounds_toArray, List.set_cons_zero, List.set_cons_succ, i64_w, i32_w]
            rfl
          refine pure_ (i := 6) (N := some 121) (v := ?_) (a' := ?_) #[true, true, true, true, true, true, true, false, false, false, false, false, false, false, false, false, false, false, false] rfl rfl (by kernel_rfl) (fun _ _ _ h => h) (Or.inl ⟨by rfl, ?_⟩) ?_ ?_
          rotate_left
          · intro w'
            go_simp
            with_reducible rfl
          rotate_left
          · simp only [Act.put, List.setIfInBounds_toArray, List.set_cons_zero, List.set_cons_succ, i64_w, i32_w]
            rfl
          refine pure_ (i := 8) (N := some 123) (v := ?_) (a' := ?_) #[true, true, true, true, true, true, true, false, true, false, false, false, false, false, false, false, false, false, false] rfl rfl (by kernel_rfl) (fun _ _ _ h => h) (Or.inl ⟨by rfl, ?_⟩) ?_ ?_
          rotate_left
          · intro w'
            go_simp
            with_reducible rfl
          rotate_left
          · simp only [Act.put, List.setIfInBounds_toArray, List.set_cons_zero, List.set_cons_succ, i64_w, i32_w]
            rfl
          refine pure_ (i := 11) (N := some 126) (v := ?_) (a' := ?_) #[true, true, true, true, true, true, true, false, true, false, false, true, false, false, false, false, false, false, false] rfl rfl (by kernel_rfl) (fun _ _ _ h => h) (Or.inl ⟨by rfl, ?_⟩) ?_ ?_
          rotate_left
          · intro w'
            go_simp
            with_reducible rfl
          rotate_left
          · simp only [Act.put, List.setIfInBounds_toArray, List.set_cons_zero, List.set_cons_succ, i64_w, i32_w]
            rfl
          refine pure_ (i := 13) (N := some 128) (v := ?_) (a' := ?_) #[true, true, true, true, true, true, true, false, true, false, false, true, false, true, false, false, false, false, false] rfl rfl (by kernel_rfl) (fun _ _ _ h => h) (Or.inl ⟨by rfl, ?_⟩) ?_ ?_
          rotate_left
          · intro w'
            go_simp
            with_reducible rfl
          rotate_left
          · simp only [Act.put, List.setIfInBounds_toArray, List.set_cons_zero, List.set_cons_succ, i64_w, i32_w]
            rfl
          refine take_ (i := 7) (N := some 122) (v := ?_) (a' := ?_) #[true, true, true, true, true, true, true, true, true, false, false, true, false, true, false, false, false, false, false] rfl rfl (by kernel_rfl) (fun _ _ _ h => h) (Or.inl ⟨by rfl, ?_⟩) hHeld ?_ ?_
          rotate_left
          · rintro w' ⟨s0, s1, s2, s3, s4⟩
            go_simp
            with_reducible rfl
          rotate_left
          · simp only [Act.put, List.setIfInBounds_toArray, List.set_cons_zero, List.set_cons_succ, i64_w, i32_w]
            rfl
          refine pure_ (i := 9) (N := some 124) (v := ?_) (a' := ?_) #[true, true, true, true, true, true, true, true, true, true, false, true, false, true, false, false, false, false, false] rfl rfl (by kernel_rfl) (fun _ _ _ h => h) (Or.inl ⟨by rfl, ?_⟩) ?_ ?_
          rotate_left
          · intro w'
            go_simp
            with_reducible rfl
          rotate_left
          · simp only [Act.put, List.setIfInBounds_toArray, List.set_cons_zero, List.set_cons_succ, i64_w, i32_w]
            rfl
          refine take_ (i := 10) (N := some 125) (v := ?_) (a' := ?_) #[true, true, true, true, true, true, true, true, true, true, true, true, false, true, false, false, false, false, false] rfl rfl (by kernel_rfl) (fun _ _ _ h => h) (Or.inl ⟨by rfl, ?_⟩) hHeld ?_ ?_
          rotate_left
          · rintro w' ⟨s0, s1, s2, s3, s4⟩
            go_simp
            with_reducible rfl
          rotate_left
          · simp only [Act.put, List.setIfInBounds_toArray, List.set_cons_zero, List.set_cons_succ, i64_w, i32_w]
            rfl
          refine take_ (i := 12) (N := some 127) (v := ?_) (a' := ?_) #[true, true, true, true, true, true, true, true, true, true, true, true, true, true, false, false, false, false, false] rfl rfl (by kernel_rfl) (fun _ _ _ h => h) (Or.inl ⟨by rfl, ?_⟩) hHeld ?_ ?_
          rotate_left
          · rintro w' ⟨s0, s1, s2, s3, s4⟩
            go_simp
            with_reducible rfl
          rotate_left
          · simp only [Act.put, List.setIfInBounds_toArray, List.set_cons_zero, List.set_cons_succ, i64_w, i32_w]
            rfl
          refine pure_ (i := 14) (N := some 129) (v := ?_) (a' := ?_) #[true, true, true, true, true, true, true, true, true, true, true, true, true, true, true, false, false, false, false] rfl rfl (by kernel_rfl) (fun _ _ _ h => h) (Or.inl ⟨by rfl, ?_⟩) ?_ ?_
          rotate_left
          · intro w'
            go_simp
            with_reducible rfl
          rotate_left
          · simp only [Act.put, List.setIfInBounds_toArray, List.set_cons_zero, List.set_cons_succ, i64_w, i32_w]
            rfl
          refine take_ (i := 15) (N := some 130) (v := ?_) (a' := ?_) #[true, true, true, true, true, true, true, true, true, true, true, true, true, true, true, true, false, false, false] rfl rfl (by kernel_rfl) (fun _ _ _ h => h) (Or.inl ⟨by rfl, ?_⟩) hHeld ?_ ?_
          rotate_left
          · rintro w' ⟨s0, s1, s2, s3, s4⟩
            go_simp
            with_reducible rfl
          rotate_left
          · simp only [Act.put, List.setIfInBounds_toArray, List.set_cons_zero, List.set_cons_succ, i64_w, i32_w]
            rfl
          refine one_ (i := 16) (N := some 131) #[true, true, true, true, true, true, true, true, true, true, true, true, true, true, true, true, true, false, false] rfl rfl (by kernel_rfl) (by decide) (fun K hK => ?_)
          refine goes_ Try.func22 (by kernel_rfl) rfl #[.slice B row.length cB, .slice B2 row.length cB2] (by rfl) rfl rfl (by simp only [List.map_toArray, List.map_cons, List.map_nil]; rfl) ?_
          with_reducible refine (eq_same _ (Kd.C_below HZ.out.1 hHeld.1) HZ.out.2 (Kd.C_below HZ2.out.1 hHeld.1) HZ2.out.2 (Nat.le_trans HZL.out (by decide))).mono ?_
          rintro e w20 ⟨rfl, hb20⟩
          refine ⟨_, rfl, ?_⟩
          refine hK.out _ _ ⟨below_step hHeld.1 hb20, pw_cell_below hb20 hHeld.2.1, pw_cell_below hb20 hHeld.2.2.1, pw_cell_below hb20 hHeld.2.2.2.1, pw_cell_below hb20 hHeld.2.2.2.2⟩ (fun hHeld => ?_)
          clear hK K
          refine norm_ (a' := ?_) ?_ ?_
          rotate_left
          · show Act.put _ (some 131) _ = _
            simp only [Act.put, List.setIfInBounds_toArray, List.set_cons_zero, List.set_cons_succ, i64_w, i32_w]
            rfl
          refine pure_ (i := 17) (N := some 132) (v := ?_) (a' := ?_) #[true, true, true, true, true, true, true, true, true, true, true, true, true, true, true, true, true, true, false] rfl rfl (by kernel_rfl) (fun _ _ _ h => h) (Or.inl ⟨by rfl, ?_⟩) ?_ ?_
          rotate_left
          · intro w'
            go_simp
            with_reducible rfl
          rotate_left
          · simp only [Act.put, List.setIfInBounds_toArray, List.set_cons_zero, List.set_cons_succ, i64_w, i32_w]
            rfl
          refine pure_ (i := 18) (N := some 133) (v := ?_) (a' := ?_) #[true, true, true, true, true, true, true, true, true, true, true, true, true, true, true, true, true, true, true] rfl rfl (by kernel_rfl) (fun _ _ _ h => h) (Or.inl ⟨by rfl, ?_⟩) ?_ ?_
          rotate_left
          · intro w'
            go_simp
            with_reducible rfl
          rotate_left
          · simp only [Act.put, List.setIfInBounds_toArray, List.set_cons_zero, List.set_cons_succ, i64_w, i32_w]
            rfl
          refine done_ (by kernel_rfl) ?_
          have HB20 : Aside0 (Below w16.heap.size w16 w20) := ⟨below_step HBJ.out hHeld.1⟩
          clear hHeld hb20 g0 i0 z0 z2
          go_wp2_with fail
          go_roundg (nd.length - (j + 1))
          case measure => have := HJQ.out; have := HJT.out; omega
          case rel => exact ⟨j + 1, by first | rfl | rw [HJ64.out], ⟨by have := HJT.out; omega, rfl⟩, HB20⟩
        · have e_ : j = nd.length := by have := HJQ.out; omega
          subst e_
          have hdecj : decide ((nd.length : Int) < (nd.length : Int)) = false := decide_eq_false (by omega)
          have hdecj2 : decide (nd.length < nd.length) = false := decide_eq_false hjt
          have g0 := (blk_cell (blk_below HG9.out HBW.out) 0).trans rfl
          have g1 := (blk_cell (blk_below HG9.out HBW.out) 1).trans rfl
          have i0 := (blk_cell (blk_below HG2.out HBW.out) 0).trans rfl
          have i1 := (blk_cell (blk_below HG2.out HBW.out) 1).trans rfl
          clear hjt HJQ
          go_wp2_with fail
          refine start_ (n := 6) (S := fun w' => Below ws.heap.size ws w' ∧ w'.cell? ⟨w8.heap.size, 0, none⟩ = some (.slice AH gl.length cH) ∧ w'.cell? ⟨w8.heap.size, 1, none⟩ = some (.slice AR hl.length cR) ∧ w'.cell? ⟨w8.heap.size + 1, 0, none⟩ = some (.slice AH2 gl2.length cH2) ∧ w'.cell? ⟨w8.heap.size + 1, 1, none⟩ = some (.slice AR2 hl.length cR2)) (ds := []) #[false, false, false, false, false, false] (by kernel_rfl) rfl rfl ⟨(below_step HBW.out (below_drew (Below.refl _ _))), g0, g1, i0, i1⟩ (fun hHeld => ?_)
          generalize wr.drew = w19 at hHeld ⊢
          refine take_ (i := 0) (N := some 135) (v := ?_) (a' := ?_) #[true, false, false, false, false, false] rfl rfl (by kernel_rfl) (fun _ _ _ h => h) (Or.inl ⟨by rfl, ?_⟩) hHeld ?_ ?_
          rotate_left
          · rintro w' ⟨s0, s1, s2, s3, s4⟩
            go_simp
            with_reducible rfl
          rotate_left
          · simp only [Act.put, List.setIfInBounds_toArray, List.set_cons_zero, List.set_cons_succ, i64_w, i32_w]
            rfl
          refine take_ (i := 2) (N := some 137) (v := ?_) (a' := ?_) #[true, false, true, false, false, false] rfl rfl (by kernel_rfl) (fun _ _ _ h => h) (Or.inl ⟨by rfl, ?_⟩) hHeld ?_ ?_
          rotate_left
          · rintro w' ⟨s0, s1, s2, s3, s4⟩
            go_simp
            with_reducible rfl
          rotate_left
          · simp only [Act.put, List.setIfInBounds_toArray, List.set_cons_zero, List.set_cons_succ, i64_w, i32_w]
            rfl
          refine one_ (i := 1) (N := some 136) #[true, true, true, false, false, false] rfl rfl (by kernel_rfl) (by decide) (fun K hK => ?_)
          refine goes_ Try.func21 (by kernel_rfl) rfl #[.agg #[.slice AH gl.length cH, .slice AR hl.length cR]] (by rfl) rfl rfl (by simp only [List.map_toArray, List.map_cons, List.map_nil]; rfl) ?_
          with_reducible refine (HNA.out _ hHeld.1).mono ?_
          rintro e w20 ⟨A8, c8, rfl, hr8, hb8⟩
          refine ⟨_, rfl, ?_⟩
          have HR8 := Aside0.mk (R_C hr8)
          clear hr8
          refine hK.out _ _ ⟨below_step hHeld.1 hb8, pw_cell_below hb8 hHeld.2.1, pw_cell_below hb8 hHeld.2.2.1, pw_cell_below hb8 hHeld.2.2.2.1, pw_cell_below hb8 hHeld.2.2.2.2⟩ (fun hHeld => ?_)
          clear hK K
          refine norm_ (a' := ?_) ?_ ?_
          rotate_left
          · show Act.put _ (some 136) _ = _
            simp only [Act.put, List.setIfInBounds_toArray, List.set_cons_zero, List.set_cons_succ, i64_w, i32_w]
            rfl
          refine one_ (i := 3) (N := some 138) #[true, true, true, true, false, false] rfl rfl (by kernel_rfl) (by decide) (fun K hK => ?_)
          refine goes_ Try.func21 (by kernel_rfl) rfl #[.agg #[.slice AH2 gl2.length cH2, .slice AR2 hl.length cR2]] (by rfl) rfl rfl (by simp only [List.map_toArray, List.map_cons, List.map_nil]; rfl) ?_
          with_reducible refine (HNB.out _ hHeld.1).mono ?_
          rintro e w21 ⟨A10, c10, rfl, hr10, hb10⟩
          refine ⟨_, rfl, ?_⟩
          have HR10 := Aside0.mk (R_C hr10)
          have HR8b := Aside0.mk (And.intro (Kd.C_below HR8.out.1 hb10) HR8.out.2.1)
          clear hr10
          refine hK.out _ _ ⟨below_step hHeld.1 hb10, pw_cell_below hb10 hHeld.2.1, pw_cell_below hb10 hHeld.2.2.1, pw_cell_below hb10 hHeld.2.2.2.1, pw_cell_below hb10 hHeld.2.2.2.2⟩ (fun hHeld => ?_)
          clear hK K
          refine norm_ (a' := ?_) ?_ ?_
          rotate_left
          · show Act.put _ (some 138) _ = _
            simp only [Act.put, List.setIfInBounds_toArray, List.set_cons_zero, List.set_cons_succ, i64_w, i32_w]
            rfl
          refine one_ (i := 4) (N := some 139) #[true, true, true, true, true, false] rfl rfl (by kernel_rfl) (by decide) (fun K hK => ?_)
          refine goes_ Try.func22 (by kernel_rfl) rfl #[.slice A8 nd.length c8, .slice A10 nd.length c10] (by rfl) rfl rfl (by simp only [List.map_toArray, List.map_cons, List.map_nil]; rfl) ?_
          with_reducible refine (eq_same _ HR8b.out.1 HR8b.out.2 HR10.out.1 HR10.out.2.1 (Nat.le_trans HNZ.out (by decide))).mono ?_
          rintro e w22 ⟨rfl, hb11⟩
          refine ⟨_, rfl, ?_⟩
          refine hK.out _ _ ⟨below_step hHeld.1 hb11, pw_cell_below hb11 hHeld.2.1, pw_cell_below hb11 hHeld.2.2.1, pw_cell_below hb11 hHeld.2.2.2.1, pw_cell_below hb11 hHeld.2.2.2.2⟩ (fun hHeld => ?_)
          clear hK K
          refine norm_ (a' := ?_) ?_ ?_
          rotate_left
          · show Act.put _ (some 139) _ = _
            simp only [Act.put, List.setIfInBounds_toArray, List.set_cons_zero, List.set_cons_succ, i64_w, i32_w]
            rfl
          refine pure_ (i := 5) (N := some 6) (v := ?_) (a' := ?_) #[true, true, true, true, true, true] rfl rfl (by kernel_rfl) (fun _ _ _ h => h) (Or.inl ⟨by rfl, ?_⟩) ?_ ?_
          rotate_left
          · intro w'
            go_simp
            with_reducible rfl
          rotate_left
          · simp only [Act.put, List.setIfInBounds_toArray, List.set_cons_zero, List.set_cons_succ, i64_w, i32_w]
            rfl
          refine done_ (by kernel_rfl) ?_
          have HBL : Aside0 (Below w.heap.size w w22) := ⟨below_step HLOW.out hHeld.1⟩
          clear hHeld hb8 hb10 hb11 g0 g1 i0 i1
          go_wp2_with fail
          go_ret
          exact ⟨rfl, HBL.out⟩
end Go.Proofs.Ytnimidkeoocchaa.PG
