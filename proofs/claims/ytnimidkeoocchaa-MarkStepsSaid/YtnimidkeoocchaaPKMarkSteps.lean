/- The law function MarkSteps: what it answers. -/
import Derived.Test.YtnimidkeoocchaaMarkSp
import Derived.Test.YtnimidkeoocchaaPK1
import Derived.Deep.DeepCutAuto
import Derived.Deep.CutBlock
set_option linter.unusedVariables false
set_option linter.unusedSimpArgs false
namespace Go.Proofs.Ytnimidkeoocchaa.PK
open Go.RowKit Go.Proofs.YtnimidkeoocchaaW.PrintWords Go.Proofs.YtnimidkeoocchaaW.PrintLast Go.Proofs.YtnimidkeoocchaaW.PrintMore Go.Proofs.Ytnimidkeoocchaa.Hnd Go.Proofs.Ytnimidkeoocchaa.Mrk
attribute [local go_sem] max2_int min2_int max_two min_two max_three min_three max_four min_four   -- for this text's walks alone

theorem zz0 : decide ((0 : Int) < wrap64 (((0 : Nat) : Int) + ((0 : Nat) : Int))) = false := decide_eq_false (by unfold wrap64; omega)
abbrev Deed := S31
theorem take_min80 {α : Type} (l : List α) : l.take (min l.length 80) = l.take 80 := by
  rcases Nat.le_total l.length 80 with h1 | h1
  · rw [Nat.min_eq_left h1, List.take_length, List.take_of_length_le h1]
  · rw [Nat.min_eq_right h1]
theorem rest2 (a : Int) : ∃ r, backstitchref3_Rest.f a 2 = some r ∧ (r = 0 ∨ r = 1) := by
  unfold backstitchref3_Rest.f
  rw [if_neg (by decide)]
  have h1 := Int.tmod_two_eq a
  by_cases h : Int.tmod a 2 < 0
  · rw [if_pos h]
    have e : Int.tmod a 2 = -1 := by omega
    rw [e]
    exact ⟨_, rfl, .inr (by unfold wrap64; omega)⟩
  · rw [if_neg h]
    exact ⟨_, rfl, by omega⟩
def deedsOk (l : List Deed) : Prop := ∀ x ∈ l, x.f3 ≤ 9223372036854775807
open Classical in
noncomputable def backstitchkeep3_MarkSteps.f (k : Nat) (a0 : Int) (l1 : List Deed) : Option Bool := if deedsOk l1 then some true else none
theorem at_deed {w : World} {A : Option Addr} {n : Nat} {xs : List Deed} (h : Kd.C k31 w A n xs) (i : Nat) (hi : i < n) : ∃ ad, A = some ad ∧ w.cell? (ad.add (i * 4)) = some (.int .i64 (xs.getD i z31).f0) ∧ w.cell? ⟨(ad.add (i * 4)).block, (ad.add (i * 4)).off + 1, none⟩ = some (.int .i64 (xs.getD i z31).f1) ∧ w.cell? ⟨(ad.add (i * 4)).block, (ad.add (i * 4)).off + 2, none⟩ = some (.int .i64 (xs.getD i z31).f2) ∧ w.cell? ⟨(ad.add (i * 4)).block, (ad.add (i * 4)).off + 3, none⟩ = some (.int .i64 (xs.getD i z31).f3) := by
  obtain ⟨ad, e, h0, h1, h2, h3⟩ := at_T31 h (i : Int) (by omega) (by omega)
  exact ⟨ad, e, by simpa [rd_T31] using h0, by simpa [rd_T31] using h1, by simpa [rd_T31] using h2, by simpa [rd_T31] using h3⟩
/-- A marker between two deeds, in a law's own memory: what is its own lies in blocks below N. -/
def MkO (w0 W : World) (N : Nat) (ok : Nat → Prop) (g : Nat) (kind : Int) (mk : Bool) (l : List Th) : Prop := ∃ v ps, MS W ok g kind mk v ps l ∧ Inv mk l ∧ (∀ k, ok k → k < N ∧ w0.heap.size ≤ k) ∧ N ≤ W.heap.size ∧ Below w0.heap.size w0 W
def MkSt (w0 W : World) (g : Nat) (kind : Int) (mk : Bool) (l : List Th) : Prop := ∃ ok, MkO w0 W W.heap.size ok g kind mk l
theorem MkO.below {w0 W W1 : World} {N : Nat} {ok : Nat → Prop} {g : Nat} {kind : Int} {mk : Bool} {l : List Th} (h : MkO w0 W N ok g kind mk l) (hb : Below W.heap.size W W1) : MkO w0 W1 N ok g kind mk l := by
  obtain ⟨v, ps, h1, h2, h3, h4, h5⟩ := h
  exact ⟨v, ps, h1.below hb, h2, h3, Nat.le_trans h4 hb.size, below_step h5 hb⟩
theorem MkO.st {w0 W : World} {N : Nat} {ok : Nat → Prop} {g : Nat} {kind : Int} {mk : Bool} {l : List Th} (h : MkO w0 W N ok g kind mk l) : MkSt w0 W g kind mk l := by
  obtain ⟨v, ps, h1, h2, h3, h4, h5⟩ := h
  exact ⟨ok, v, ps, h1, h2, fun k hk => ⟨Nat.lt_of_lt_of_le (h3 k hk).1 h4, (h3 k hk).2⟩, Nat.le_refl _, h5⟩
theorem MkSt.below {w0 W W1 : World} {g : Nat} {kind : Int} {mk : Bool} {l : List Th} (h : MkSt w0 W g kind mk l) (hb : Below W.heap.size W W1) : MkSt w0 W1 g kind mk l := by
  obtain ⟨ok, h⟩ := h
  exact (h.below hb).st
theorem MkO.do_ {w0 W : World} {N : Nat} {ok : Nat → Prop} {g : Nat} {kind : Int} {mk : Bool} {l : List Th} (h : MkO w0 W N ok g kind mk l) (d a b n : Int) (hn : n ≤ 9223372036854775807) :
    Calls Try.prog 29 #[.pointer (some ⟨g, 0, none⟩), .agg #[.int .i64 d, .int .i64 a, .int .i64 b, .int .i64 n]] W fun e w' => e = .returned (.tuple #[.int .i64 (doL kind mk l d a b n).many, .int .i64 (doL kind mk l d a b n).err]) ∧ MkSt w0 w' g kind (doL kind mk l d a b n).mk (doL kind mk l d a b n).l ∧ Fr (fun k => k < N ∧ w0.heap.size ≤ k) W w' := by
  obtain ⟨v, ps, h1, h2, h3, h4, h5⟩ := h
  refine (do_calls W h1 h2.ok (fun k hk => Nat.lt_of_lt_of_le (h3 k hk).1 h4) d a b n hn).mono ?_
  rintro e w' ⟨he, ⟨v', ps', hm⟩, hf⟩
  refine ⟨he, ⟨_, v', ps', hm.bound, do_inv h2 d a b n, fun k hk => ⟨hk.2, ?_⟩, Nat.le_refl _, ?_⟩, ⟨hf.os, hf.tape, hf.output, hf.size, fun k hk hn => hf.blk k hk (fun ho => hn (h3 k ho))⟩⟩
  · rcases hk.1 with h_ | h_
    · exact (h3 k h_).2
    · exact Nat.le_trans h5.size h_
  · exact h5.trans (hf.to_below h5.size (fun k hk => (h3 k hk).2))
theorem MkSt.marking {w0 W : World} {g : Nat} {kind : Int} {mk : Bool} {l : List Th} (h : MkSt w0 W g kind mk l) : Calls Try.prog 28 #[.pointer (some ⟨g, 0, none⟩)] W fun e w' => e = .returned (.bool mk) ∧ Below W.heap.size W w' := by
  obtain ⟨ok, v, ps, h1, h2, h3, h4⟩ := h
  exact marking_calls W h1
theorem MkSt.colours {w0 W : World} {g : Nat} {kind : Int} {mk : Bool} {l : List Th} (h : MkSt w0 W g kind mk l) : Calls Try.prog 27 #[.pointer (some ⟨g, 0, none⟩)] W fun e w' => ∃ v0, e = .returned v0 ∧ Kd.R (Kd.int .i64) 3 w' W.heap.size (fun _ => True) v0 (col l) ∧ Below W.heap.size W w' := by
  obtain ⟨ok, v, ps, h1, h2, h3, h4⟩ := h
  exact colours_calls W h1 h2.ok.len
theorem MkSt.inv {w0 W : World} {g : Nat} {kind : Int} {mk : Bool} {l : List Th} (h : MkSt w0 W g kind mk l) : Inv mk l := by
  obtain ⟨ok, v, ps, h1, h2, h3, h4⟩ := h
  exact h2
theorem MkSt.low {w0 W : World} {g : Nat} {kind : Int} {mk : Bool} {l : List Th} (h : MkSt w0 W g kind mk l) : Below w0.heap.size w0 W := by
  obtain ⟨ok, v, ps, h1, h2, h3, h4, h5⟩ := h
  exact h5
theorem MkSt.start {w0 w W : World} {kind : Int} (h : MS W (fun k => k = w.heap.size) w.heap.size kind false (.slice none 0 0) [] []) (hb : Below w0.heap.size w0 w) (hb1 : Below w.heap.size w W) : MkSt w0 W w.heap.size kind false [] :=
  ⟨_, _, _, h, inv_nil _, fun k hk => by subst hk; exact ⟨blk_lt h.obj, hb.size⟩, Nat.le_refl _, below_step hb hb1⟩
set_option maxHeartbeats 16000000 in
set_option maxRecDepth 100000 in
theorem backstitchkeep3_MarkSteps.calls (k : Nat) (a0 : Int) (A1 : Option Addr) (c1 : Nat) (l1 : List Deed) (r : Bool) (w : World) (hr1 : Kd.C k31 w A1 l1.length l1) (hc1 : l1.length ≤ c1) (h : backstitchkeep3_MarkSteps.f k a0 l1 = some r) :
    Calls Try.prog 7 #[.int .i64 a0, .slice A1 l1.length c1] w fun e w' => e = .returned (.bool r) ∧ Below w.heap.size w w' := by
  unfold backstitchkeep3_MarkSteps.f at h
  have hok : deedsOk l1 := by
    by_cases hx : deedsOk l1
    · exact hx
    · rw [if_neg hx] at h; exact absurd h (by simp)
  rw [if_pos hok] at h
  obtain rfl := Option.some.inj h
  have HR0 : Aside0 (Kd.C k31 w A1 (l1.take 80).length (l1.take 80)) := ⟨by
    have h_ := Kd.C_take hr1 (m := min l1.length 80) (by omega)
    rwa [take_min80 l1] at h_⟩
  have HDO : Aside0 (∀ x ∈ l1.take 80, x.f3 ≤ 9223372036854775807) := ⟨fun x hx => hok x (List.mem_of_mem_take hx)⟩
  have HLEN : Aside0 (((l1.take 80).length : Int) = min (l1.length : Int) 80) := ⟨by rw [List.length_take]; omega⟩
  have HCC := Aside0.mk hc1
  obtain ⟨q, hq, hq2⟩ := rest2 a0
  have HQ := Aside0.mk hq
  clear hr1 hc1 h hok hq
  generalize hl : l1.take 80 = l at HR0 HDO HLEN
  have HSML : Aside0 (l.length ≤ 80) := ⟨by rw [← hl, List.length_take]; omega⟩
  clear hl
  obtain ⟨kd, hkd⟩ : ∃ kd, kd = 1 + q := ⟨_, rfl⟩
  have hw1 : wrap64 (1 + q) = kd := by unfold wrap64; omega
  have HKD : Aside0 (kd = 1 ∨ kd = 2) := ⟨by omega⟩
  clear hq2 hkd
  go_enter Try.func7, Try.ntmps7
  go_wp2_with fail
  refine (marked_calls w).mono ?_
  rintro e w1 ⟨rfl, hb1⟩
  have HB1 := Aside0.mk hb1
  clear hb1
  go_wp2_with fail
  refine (backstitchref3_Rest.calls a0 2 q w1 HQ.out).mono ?_
  rintro e w2 ⟨rfl, hd2⟩
  have HB2 := Aside0.mk (below_step HB1.out hd2.below)
  clear hd2
  go_wp2_with fail
  refine (new_calls w2 kd HKD.out).mono ?_
  rintro e w3 ⟨rfl, hm3, hb3⟩
  have HS3 := Aside0.mk (MkSt.start hm3 HB2.out hb3)
  clear hm3 hb3
  generalize w2.heap.size = g at HS3 ⊢
  go_wp2_with fail
  refine (marked_calls w3).mono ?_
  rintro e w4 ⟨rfl, hb4⟩
  have HS4 := Aside0.mk (HS3.out.below hb4)
  clear hb4 HS3
  go_upto_region 7 with fail
  go_cut [38, 39, 40] (fun s38 s39 s40 wx => s38 = .slice A1 l.length c1 ∧ s39 = .int .i64 (l.length : Int) ∧ s40 = .int .i64 0 ∧ wx = w4)
  case first =>
    by_cases h20 : (80 : Int) < (l1.length : Int)
    · have e20 : l.length = 80 := by have h_ := HLEN.out; omega
      have c20 : ((80 : Int) ≤ (c1 : Int)) = True := eq_true (by have h_ := HCC.out; omega)
      have d20 : decide ((80 : Int) < (l1.length : Int)) = true := decide_eq_true h20
      go_wp2_with fail
      go_meet
      exact ⟨by rw [e20], by rw [e20]; rfl, rfl, rfl⟩
    · have e20 : l.length = l1.length := by have h_ := HLEN.out; omega
      have c20 : ((l1.length : Int) ≤ (c1 : Int)) = True := eq_true (by have h_ := HCC.out; omega)
      go_wp2_with fail
      go_meet
      exact ⟨by rw [e20], by rw [e20], rfl, rfl⟩
  case rest =>
  obtain ⟨rfl, rfl, rfl, rfl⟩ := hcut
  go_wp2_with fail
  go_loopg [40] l.length (fun kq v40 W => ∃ (i : Nat) (mk : Bool) (l' : List Th), v40 = .int .i64 (i : Int) ∧ Aside0 (i ≤ l.length ∧ kq = l.length - i) ∧ Aside0 (MkSt w W g kd mk l'))
  case atStart => exact ⟨0, false, [], rfl, ⟨Nat.zero_le _, by omega⟩, HS4⟩
  case round =>
    clear HS4
    obtain ⟨i, mk, l', rfl, HIQ, HS⟩ := hrel
    by_cases hlt : i < l.length
    · have hi0 : (0 : Int) ≤ (i : Int) := by omega
      have hi1 : (i : Int) < (l.length : Int) := by omega
      have hdec : decide ((i : Int) < (l.length : Int)) = true := decide_eq_true hi1
      have hdec2 : decide (i < l.length) = true := decide_eq_true hlt
      have HLT := Aside0.mk hlt
      have HW64 : Aside0 (wrap64 ((i : Int) + 1) = ((i + 1 : Nat) : Int)) := ⟨by have := HSML.out; unfold wrap64; omega⟩
      obtain ⟨ad, rfl, x0, x1, x2, x3⟩ := at_deed (Kd.C_below HR0.out HS.out.low) i hlt
      have HX3 : Aside0 ((l.getD i z31).f3 ≤ 9223372036854775807) := ⟨HDO.out _ (by simp [List.getD_eq_getElem?_getD, hlt])⟩
      generalize l.getD i z31 = x at x0 x1 x2 x3 HX3
      obtain ⟨d, a, b, n⟩ := x
      dsimp only at x0 x1 x2 x3 HX3
      have hbx := below_alloc (Below.refl wr.heap.size wr) (Obj.cells #[.int .i64 d, .int .i64 a, .int .i64 b, .int .i64 n] 31)
      obtain ⟨ok, hmo⟩ := HS.out
      have HOX := Aside0.mk (hmo.below hbx)
      have HT := Aside0.mk (blk_new wr (Obj.cells #[.int .i64 d, .int .i64 a, .int .i64 b, .int .i64 n] 31))
      have HINV := Aside0.mk HS.out.inv
      clear hmo hbx hlt
      go_wp2_with fail
      refine (HOX.out.st.colours).mono ?_
      rintro e w5 ⟨v5, rfl, hR5, hb5⟩
      obtain ⟨A5, c5, e5⟩ := Kd.R_slice hR5
      subst e5
      have HO5 := Aside0.mk (HOX.out.below hb5)
      have HT5 := Aside0.mk (blk_below HT.out hb5)
      have HR5 := Aside0.mk hR5
      have HWL : Aside0 ((col l').length ≤ 1000) := ⟨by unfold col; rw [List.length_map]; exact HINV.out.ok.len⟩
      clear hR5 hb5
      go_wp2_with fail
      refine (HO5.out.st.marking).mono ?_
      rintro e w6 ⟨rfl, hb6⟩
      have HO6 := Aside0.mk (HO5.out.below hb6)
      have HT6 := Aside0.mk (blk_below HT5.out hb6)
      have HR6 := Aside0.mk (Kd.R_below HR5.out hb6)
      have HDC := Aside0.mk (HO6.out.do_ d a b n HX3.out)
      have HOK := Aside0.mk (steps_ok (kind := kd) HINV.out d a b n)
      have HINV2 := Aside0.mk (do_inv (kind := kd) HINV.out d a b n)
      generalize doL kd mk l' d a b n = o at HDC HOK HINV2
      have y0 : w6.cell? ⟨wr.heap.size, 0, none⟩ = some (.int .i64 d) := (blk_cell HT6.out 0).trans rfl
      have y1 : w6.cell? ⟨wr.heap.size, 1, none⟩ = some (.int .i64 a) := (blk_cell HT6.out 1).trans rfl
      have y2 : w6.cell? ⟨wr.heap.size, 2, none⟩ = some (.int .i64 b) := (blk_cell HT6.out 2).trans rfl
      have y3 : w6.cell? ⟨wr.heap.size, 3, none⟩ = some (.int .i64 n) := (blk_cell HT6.out 3).trans rfl
      clear hb6
      go_wp2_with fail
      refine HDC.out.mono ?_
      rintro e w7 ⟨rfl, hs7, hf7⟩
      have HS7 := Aside0.mk hs7
      have HT7 := Aside0.mk (hf7.obj HT6.out (fun h_ => by omega))
      have HR7 : Aside0 ((Kd.int .i64).R 3 w7 _ (fun _ => True) (.slice A5 (col l').length c5) (col l')) := ⟨R_flat rfl HR6.out (fun k hk => hf7.blk k (Kd.R_lt HR6.out k hk) (fun h_ => by have h2_ := Kd.R_base HR6.out k hk; rw [blk_size] at h2_; omega))⟩
      clear hs7 hf7 y0 y1 y2 y3
      go_wp2_with fail
      refine (HS7.out.colours).mono ?_
      rintro e w8 ⟨v8, rfl, hR8, hb8⟩
      obtain ⟨A8, c8, e8⟩ := Kd.R_slice hR8
      subst e8
      have HCI := Aside0.mk (Kd.R_reads' hR8).2.2
      have HCW := Aside0.mk (Kd.C_below (Kd.R_reads' HR7.out).2.2 hb8)
      have HS8 := Aside0.mk (HS7.out.below hb8)
      have HT8 := Aside0.mk (blk_below HT7.out hb8)
      have HIL : Aside0 ((col o.l).length ≤ 1000) := ⟨by unfold col; rw [List.length_map]; exact HINV2.out.ok.len⟩
      have HBC := Aside0.mk (Below.refl w8.heap.size w8)
      have e0 : w8.cell? ⟨wr.heap.size, 0, none⟩ = some (.int .i64 d) := (blk_cell HT8.out 0).trans rfl
      have e3 : w8.cell? ⟨wr.heap.size, 3, none⟩ = some (.int .i64 n) := (blk_cell HT8.out 3).trans rfl
      have HLC : Aside0 (∀ c, cnt (col o.l) c ≤ 1000) := ⟨fun c => Nat.le_trans List.countP_le_length HIL.out⟩
      have HLD : Aside0 (∀ c, cnt (col l') c ≤ 1000) := ⟨fun c => Nat.le_trans List.countP_le_length HWL.out⟩
      unfold StepsOk at HOK
      generalize col l' = cw at HCW HWL HOK HLD HR7 HR6 HR5
      generalize hci : col o.l = ci at HCI HIL HOK HLC
      obtain ⟨mk', lo, many, err⟩ := o
      dsimp only at HOK
      have HCI0 := Aside0.mk hci
      clear hci
      by_cases hd : d = 5
      · have hb5 : (d == 5) = true := by simpa using hd
        have hb7 : (d == 7) = false := by simp; omega
        by_cases he : err = 0
        · have hbe : (err == 0) = true := by simpa using he
          obtain ⟨h1, h2, h3⟩ := HOK.out.1 hd he
          have hgt : decide (n < many) = false := decide_eq_false (by omega)
          have hm0 : wrap64 ((cnt cw 2 : Int) + many) = (cnt ci 2 : Int) := by rw [← h2]; have := HLC.out 2; unfold wrap64; omega
          by_cases hlt : many < n
          · have hml : decide (many < n) = true := decide_eq_true hlt
            have hz0 : cnt ci 1 = 0 := h3 hlt
            have hz9 : decide ((0 : Int) < (cnt ci 1 : Int)) = false := decide_eq_false (by rw [hz0]; decide)
            clear h1 h2 h3 hd he hlt
            cases mk with
            | true =>
              go_wp2_with fail
              refine (count_calls _ A8 c8 ci 2 (Kd.C_below HCI.out HBC.out) HIL.out).mono ?_
              rintro e w9 ⟨rfl, hb9⟩
              replace HBC := Aside0.mk (below_step HBC.out hb9)
              replace e0 := pw_cell_below hb9 e0
              replace e3 := pw_cell_below hb9 e3
              clear hb9
              go_wp2_with fail
              refine (count_calls _ A5 c5 cw 2 (Kd.C_below HCW.out HBC.out) HWL.out).mono ?_
              rintro e w9 ⟨rfl, hb9⟩
              replace HBC := Aside0.mk (below_step HBC.out hb9)
              replace e0 := pw_cell_below hb9 e0
              replace e3 := pw_cell_below hb9 e3
              clear hb9
              go_wp2_with fail
              refine (count_calls _ A8 c8 ci 1 (Kd.C_below HCI.out HBC.out) HIL.out).mono ?_
              rintro e w9 ⟨rfl, hb9⟩
              replace HBC := Aside0.mk (below_step HBC.out hb9)
              replace e0 := pw_cell_below hb9 e0
              replace e3 := pw_cell_below hb9 e3
              clear hb9
              go_wp2_with fail
              go_roundg (l.length - (i + 1))
              case measure => have := HIQ.out; have := HLT.out; omega
              case rel => exact ⟨i + 1, _, _, by first | rfl | rw [HW64.out], ⟨by have := HLT.out; omega, rfl⟩, ⟨HS8.out.below HBC.out⟩⟩
            | false =>
              cases mk' with
              | true =>
                go_wp2_with fail
                refine (count_calls _ A8 c8 ci 2 (Kd.C_below HCI.out HBC.out) HIL.out).mono ?_
                rintro e w9 ⟨rfl, hb9⟩
                replace HBC := Aside0.mk (below_step HBC.out hb9)
                replace e0 := pw_cell_below hb9 e0
                replace e3 := pw_cell_below hb9 e3
                clear hb9
                go_wp2_with fail
                refine (count_calls _ A5 c5 cw 2 (Kd.C_below HCW.out HBC.out) HWL.out).mono ?_
                rintro e w9 ⟨rfl, hb9⟩
                replace HBC := Aside0.mk (below_step HBC.out hb9)
                replace e0 := pw_cell_below hb9 e0
                replace e3 := pw_cell_below hb9 e3
                clear hb9
                go_wp2_with fail
                refine (count_calls _ A8 c8 ci 1 (Kd.C_below HCI.out HBC.out) HIL.out).mono ?_
                rintro e w9 ⟨rfl, hb9⟩
                replace HBC := Aside0.mk (below_step HBC.out hb9)
                replace e0 := pw_cell_below hb9 e0
                replace e3 := pw_cell_below hb9 e3
                clear hb9
                go_wp2_with fail
                refine ((HS8.out.below HBC.out).marking).mono ?_
                rintro e w9 ⟨rfl, hb9⟩
                replace HBC := Aside0.mk (below_step HBC.out hb9)
                replace e0 := pw_cell_below hb9 e0
                replace e3 := pw_cell_below hb9 e3
                clear hb9
                go_wp2_with fail
                go_roundg (l.length - (i + 1))
                case measure => have := HIQ.out; have := HLT.out; omega
                case rel => exact ⟨i + 1, _, _, by first | rfl | rw [HW64.out], ⟨by have := HLT.out; omega, rfl⟩, ⟨HS8.out.below HBC.out⟩⟩
              | false =>
                have hz := HOK.out.2.2 rfl rfl
                have hz1 : cnt ci 1 = 0 := hz.1
                have hz2 : cnt ci 2 = 0 := hz.2
                clear hz
                go_wp2_with fail
                refine (count_calls _ A8 c8 ci 2 (Kd.C_below HCI.out HBC.out) HIL.out).mono ?_
                rintro e w9 ⟨rfl, hb9⟩
                replace HBC := Aside0.mk (below_step HBC.out hb9)
                replace e0 := pw_cell_below hb9 e0
                replace e3 := pw_cell_below hb9 e3
                clear hb9
                go_wp2_with fail
                refine (count_calls _ A5 c5 cw 2 (Kd.C_below HCW.out HBC.out) HWL.out).mono ?_
                rintro e w9 ⟨rfl, hb9⟩
                replace HBC := Aside0.mk (below_step HBC.out hb9)
                replace e0 := pw_cell_below hb9 e0
                replace e3 := pw_cell_below hb9 e3
                clear hb9
                go_wp2_with fail
                refine (count_calls _ A8 c8 ci 1 (Kd.C_below HCI.out HBC.out) HIL.out).mono ?_
                rintro e w9 ⟨rfl, hb9⟩
                replace HBC := Aside0.mk (below_step HBC.out hb9)
                replace e0 := pw_cell_below hb9 e0
                replace e3 := pw_cell_below hb9 e3
                clear hb9
                go_wp2_with fail
                refine ((HS8.out.below HBC.out).marking).mono ?_
                rintro e w9 ⟨rfl, hb9⟩
                replace HBC := Aside0.mk (below_step HBC.out hb9)
                replace e0 := pw_cell_below hb9 e0
                replace e3 := pw_cell_below hb9 e3
                clear hb9
                go_wp2_with fail
                refine (count_calls _ A8 c8 ci 1 (Kd.C_below HCI.out HBC.out) HIL.out).mono ?_
                rintro e w9 ⟨rfl, hb9⟩
                replace HBC := Aside0.mk (below_step HBC.out hb9)
                replace e0 := pw_cell_below hb9 e0
                replace e3 := pw_cell_below hb9 e3
                clear hb9
                go_wp2_with fail
                refine (count_calls _ A8 c8 ci 2 (Kd.C_below HCI.out HBC.out) HIL.out).mono ?_
                rintro e w9 ⟨rfl, hb9⟩
                replace HBC := Aside0.mk (below_step HBC.out hb9)
                replace e0 := pw_cell_below hb9 e0
                replace e3 := pw_cell_below hb9 e3
                clear hb9
                have hq1 : decide ((0 : Int) < wrap64 ((cnt ci 1 : Int) + (cnt ci 2 : Int))) = false := by rw [hz1, hz2]; exact zz0
                go_wp2_with fail
                go_roundg (l.length - (i + 1))
                case measure => have := HIQ.out; have := HLT.out; omega
                case rel => exact ⟨i + 1, _, _, by first | rfl | rw [HW64.out], ⟨by have := HLT.out; omega, rfl⟩, ⟨HS8.out.below HBC.out⟩⟩
          · have hml : decide (many < n) = false := decide_eq_false hlt
            clear h1 h2 h3 hd he hlt
            cases mk with
            | true =>
              go_wp2_with fail
              refine (count_calls _ A8 c8 ci 2 (Kd.C_below HCI.out HBC.out) HIL.out).mono ?_
              rintro e w9 ⟨rfl, hb9⟩
              replace HBC := Aside0.mk (below_step HBC.out hb9)
              replace e0 := pw_cell_below hb9 e0
              replace e3 := pw_cell_below hb9 e3
              clear hb9
              go_wp2_with fail
              refine (count_calls _ A5 c5 cw 2 (Kd.C_below HCW.out HBC.out) HWL.out).mono ?_
              rintro e w9 ⟨rfl, hb9⟩
              replace HBC := Aside0.mk (below_step HBC.out hb9)
              replace e0 := pw_cell_below hb9 e0
              replace e3 := pw_cell_below hb9 e3
              clear hb9
              go_wp2_with fail
              go_roundg (l.length - (i + 1))
              case measure => have := HIQ.out; have := HLT.out; omega
              case rel => exact ⟨i + 1, _, _, by first | rfl | rw [HW64.out], ⟨by have := HLT.out; omega, rfl⟩, ⟨HS8.out.below HBC.out⟩⟩
            | false =>
              cases mk' with
              | true =>
                go_wp2_with fail
                refine (count_calls _ A8 c8 ci 2 (Kd.C_below HCI.out HBC.out) HIL.out).mono ?_
                rintro e w9 ⟨rfl, hb9⟩
                replace HBC := Aside0.mk (below_step HBC.out hb9)
                replace e0 := pw_cell_below hb9 e0
                replace e3 := pw_cell_below hb9 e3
                clear hb9
                go_wp2_with fail
                refine (count_calls _ A5 c5 cw 2 (Kd.C_below HCW.out HBC.out) HWL.out).mono ?_
                rintro e w9 ⟨rfl, hb9⟩
                replace HBC := Aside0.mk (below_step HBC.out hb9)
                replace e0 := pw_cell_below hb9 e0
                replace e3 := pw_cell_below hb9 e3
                clear hb9
                go_wp2_with fail
                refine ((HS8.out.below HBC.out).marking).mono ?_
                rintro e w9 ⟨rfl, hb9⟩
                replace HBC := Aside0.mk (below_step HBC.out hb9)
                replace e0 := pw_cell_below hb9 e0
                replace e3 := pw_cell_below hb9 e3
                clear hb9
                go_wp2_with fail
                go_roundg (l.length - (i + 1))
                case measure => have := HIQ.out; have := HLT.out; omega
                case rel => exact ⟨i + 1, _, _, by first | rfl | rw [HW64.out], ⟨by have := HLT.out; omega, rfl⟩, ⟨HS8.out.below HBC.out⟩⟩
              | false =>
                have hz := HOK.out.2.2 rfl rfl
                have hz1 : cnt ci 1 = 0 := hz.1
                have hz2 : cnt ci 2 = 0 := hz.2
                clear hz
                go_wp2_with fail
                refine (count_calls _ A8 c8 ci 2 (Kd.C_below HCI.out HBC.out) HIL.out).mono ?_
                rintro e w9 ⟨rfl, hb9⟩
                replace HBC := Aside0.mk (below_step HBC.out hb9)
                replace e0 := pw_cell_below hb9 e0
                replace e3 := pw_cell_below hb9 e3
                clear hb9
                go_wp2_with fail
                refine (count_calls _ A5 c5 cw 2 (Kd.C_below HCW.out HBC.out) HWL.out).mono ?_
                rintro e w9 ⟨rfl, hb9⟩
                replace HBC := Aside0.mk (below_step HBC.out hb9)
                replace e0 := pw_cell_below hb9 e0
                replace e3 := pw_cell_below hb9 e3
                clear hb9
                go_wp2_with fail
                refine ((HS8.out.below HBC.out).marking).mono ?_
                rintro e w9 ⟨rfl, hb9⟩
                replace HBC := Aside0.mk (below_step HBC.out hb9)
                replace e0 := pw_cell_below hb9 e0
                replace e3 := pw_cell_below hb9 e3
                clear hb9
                go_wp2_with fail
                refine (count_calls _ A8 c8 ci 1 (Kd.C_below HCI.out HBC.out) HIL.out).mono ?_
                rintro e w9 ⟨rfl, hb9⟩
                replace HBC := Aside0.mk (below_step HBC.out hb9)
                replace e0 := pw_cell_below hb9 e0
                replace e3 := pw_cell_below hb9 e3
                clear hb9
                go_wp2_with fail
                refine (count_calls _ A8 c8 ci 2 (Kd.C_below HCI.out HBC.out) HIL.out).mono ?_
                rintro e w9 ⟨rfl, hb9⟩
                replace HBC := Aside0.mk (below_step HBC.out hb9)
                replace e0 := pw_cell_below hb9 e0
                replace e3 := pw_cell_below hb9 e3
                clear hb9
                have hq1 : decide ((0 : Int) < wrap64 ((cnt ci 1 : Int) + (cnt ci 2 : Int))) = false := by rw [hz1, hz2]; exact zz0
                go_wp2_with fail
                go_roundg (l.length - (i + 1))
                case measure => have := HIQ.out; have := HLT.out; omega
                case rel => exact ⟨i + 1, _, _, by first | rfl | rw [HW64.out], ⟨by have := HLT.out; omega, rfl⟩, ⟨HS8.out.below HBC.out⟩⟩
        · have hbe : (err == 0) = false := by simpa using he
          clear hd he
          cases mk with
          | true =>
            go_wp2_with fail
            go_roundg (l.length - (i + 1))
            case measure => have := HIQ.out; have := HLT.out; omega
            case rel => exact ⟨i + 1, _, _, by first | rfl | rw [HW64.out], ⟨by have := HLT.out; omega, rfl⟩, ⟨HS8.out.below HBC.out⟩⟩
          | false =>
            cases mk' with
            | true =>
              go_wp2_with fail
              refine ((HS8.out.below HBC.out).marking).mono ?_
              rintro e w9 ⟨rfl, hb9⟩
              replace HBC := Aside0.mk (below_step HBC.out hb9)
              replace e0 := pw_cell_below hb9 e0
              replace e3 := pw_cell_below hb9 e3
              clear hb9
              go_wp2_with fail
              go_roundg (l.length - (i + 1))
              case measure => have := HIQ.out; have := HLT.out; omega
              case rel => exact ⟨i + 1, _, _, by first | rfl | rw [HW64.out], ⟨by have := HLT.out; omega, rfl⟩, ⟨HS8.out.below HBC.out⟩⟩
            | false =>
              have hz := HOK.out.2.2 rfl rfl
              have hz1 : cnt ci 1 = 0 := hz.1
              have hz2 : cnt ci 2 = 0 := hz.2
              clear hz
              go_wp2_with fail
              refine ((HS8.out.below HBC.out).marking).mono ?_
              rintro e w9 ⟨rfl, hb9⟩
              replace HBC := Aside0.mk (below_step HBC.out hb9)
              replace e0 := pw_cell_below hb9 e0
              replace e3 := pw_cell_below hb9 e3
              clear hb9
              go_wp2_with fail
              refine (count_calls _ A8 c8 ci 1 (Kd.C_below HCI.out HBC.out) HIL.out).mono ?_
              rintro e w9 ⟨rfl, hb9⟩
              replace HBC := Aside0.mk (below_step HBC.out hb9)
              replace e0 := pw_cell_below hb9 e0
              replace e3 := pw_cell_below hb9 e3
              clear hb9
              go_wp2_with fail
              refine (count_calls _ A8 c8 ci 2 (Kd.C_below HCI.out HBC.out) HIL.out).mono ?_
              rintro e w9 ⟨rfl, hb9⟩
              replace HBC := Aside0.mk (below_step HBC.out hb9)
              replace e0 := pw_cell_below hb9 e0
              replace e3 := pw_cell_below hb9 e3
              clear hb9
              have hq1 : decide ((0 : Int) < wrap64 ((cnt ci 1 : Int) + (cnt ci 2 : Int))) = false := by rw [hz1, hz2]; exact zz0
              go_wp2_with fail
              go_roundg (l.length - (i + 1))
              case measure => have := HIQ.out; have := HLT.out; omega
              case rel => exact ⟨i + 1, _, _, by first | rfl | rw [HW64.out], ⟨by have := HLT.out; omega, rfl⟩, ⟨HS8.out.below HBC.out⟩⟩
      · have hb5 : (d == 5) = false := by simpa using hd
        by_cases hd7 : d = 7
        · have hb7 : (d == 7) = true := by simpa using hd7
          by_cases he : err = 0
          · have hbe : (err == 0) = true := by simpa using he
            obtain ⟨h1, h2, h3, h4⟩ := HOK.out.2.1 hd7 he
            subst h4
            have hm0 : wrap64 ((cnt cw 3 : Int) + many) = (cnt ci 3 : Int) := by rw [← h1]; have := HLC.out 3; unfold wrap64; omega
            have hq9 : decide ((0 : Int) < wrap64 ((cnt ci 1 : Int) + (cnt ci 2 : Int))) = false := by rw [h2, h3]; exact zz0
            clear h1 hd hd7 he
            cases mk with
            | true =>
              go_wp2_with fail
              refine (count_calls _ A8 c8 ci 3 (Kd.C_below HCI.out HBC.out) HIL.out).mono ?_
              rintro e w9 ⟨rfl, hb9⟩
              replace HBC := Aside0.mk (below_step HBC.out hb9)
              replace e0 := pw_cell_below hb9 e0
              replace e3 := pw_cell_below hb9 e3
              clear hb9
              go_wp2_with fail
              refine (count_calls _ A5 c5 cw 3 (Kd.C_below HCW.out HBC.out) HWL.out).mono ?_
              rintro e w9 ⟨rfl, hb9⟩
              replace HBC := Aside0.mk (below_step HBC.out hb9)
              replace e0 := pw_cell_below hb9 e0
              replace e3 := pw_cell_below hb9 e3
              clear hb9
              go_wp2_with fail
              refine (count_calls _ A8 c8 ci 1 (Kd.C_below HCI.out HBC.out) HIL.out).mono ?_
              rintro e w9 ⟨rfl, hb9⟩
              replace HBC := Aside0.mk (below_step HBC.out hb9)
              replace e0 := pw_cell_below hb9 e0
              replace e3 := pw_cell_below hb9 e3
              clear hb9
              go_wp2_with fail
              refine (count_calls _ A8 c8 ci 2 (Kd.C_below HCI.out HBC.out) HIL.out).mono ?_
              rintro e w9 ⟨rfl, hb9⟩
              replace HBC := Aside0.mk (below_step HBC.out hb9)
              replace e0 := pw_cell_below hb9 e0
              replace e3 := pw_cell_below hb9 e3
              clear hb9
              go_wp2_with fail
              refine ((HS8.out.below HBC.out).marking).mono ?_
              rintro e w9 ⟨rfl, hb9⟩
              replace HBC := Aside0.mk (below_step HBC.out hb9)
              replace e0 := pw_cell_below hb9 e0
              replace e3 := pw_cell_below hb9 e3
              clear hb9
              go_wp2_with fail
              go_roundg (l.length - (i + 1))
              case measure => have := HIQ.out; have := HLT.out; omega
              case rel => exact ⟨i + 1, _, _, by first | rfl | rw [HW64.out], ⟨by have := HLT.out; omega, rfl⟩, ⟨HS8.out.below HBC.out⟩⟩
            | false =>
              go_wp2_with fail
              refine (count_calls _ A8 c8 ci 3 (Kd.C_below HCI.out HBC.out) HIL.out).mono ?_
              rintro e w9 ⟨rfl, hb9⟩
              replace HBC := Aside0.mk (below_step HBC.out hb9)
              replace e0 := pw_cell_below hb9 e0
              replace e3 := pw_cell_below hb9 e3
              clear hb9
              go_wp2_with fail
              refine (count_calls _ A5 c5 cw 3 (Kd.C_below HCW.out HBC.out) HWL.out).mono ?_
              rintro e w9 ⟨rfl, hb9⟩
              replace HBC := Aside0.mk (below_step HBC.out hb9)
              replace e0 := pw_cell_below hb9 e0
              replace e3 := pw_cell_below hb9 e3
              clear hb9
              go_wp2_with fail
              refine (count_calls _ A8 c8 ci 1 (Kd.C_below HCI.out HBC.out) HIL.out).mono ?_
              rintro e w9 ⟨rfl, hb9⟩
              replace HBC := Aside0.mk (below_step HBC.out hb9)
              replace e0 := pw_cell_below hb9 e0
              replace e3 := pw_cell_below hb9 e3
              clear hb9
              go_wp2_with fail
              refine (count_calls _ A8 c8 ci 2 (Kd.C_below HCI.out HBC.out) HIL.out).mono ?_
              rintro e w9 ⟨rfl, hb9⟩
              replace HBC := Aside0.mk (below_step HBC.out hb9)
              replace e0 := pw_cell_below hb9 e0
              replace e3 := pw_cell_below hb9 e3
              clear hb9
              go_wp2_with fail
              refine ((HS8.out.below HBC.out).marking).mono ?_
              rintro e w9 ⟨rfl, hb9⟩
              replace HBC := Aside0.mk (below_step HBC.out hb9)
              replace e0 := pw_cell_below hb9 e0
              replace e3 := pw_cell_below hb9 e3
              clear hb9
              go_wp2_with fail
              refine ((HS8.out.below HBC.out).marking).mono ?_
              rintro e w9 ⟨rfl, hb9⟩
              replace HBC := Aside0.mk (below_step HBC.out hb9)
              replace e0 := pw_cell_below hb9 e0
              replace e3 := pw_cell_below hb9 e3
              clear hb9
              go_wp2_with fail
              refine (count_calls _ A8 c8 ci 1 (Kd.C_below HCI.out HBC.out) HIL.out).mono ?_
              rintro e w9 ⟨rfl, hb9⟩
              replace HBC := Aside0.mk (below_step HBC.out hb9)
              replace e0 := pw_cell_below hb9 e0
              replace e3 := pw_cell_below hb9 e3
              clear hb9
              go_wp2_with fail
              refine (count_calls _ A8 c8 ci 2 (Kd.C_below HCI.out HBC.out) HIL.out).mono ?_
              rintro e w9 ⟨rfl, hb9⟩
              replace HBC := Aside0.mk (below_step HBC.out hb9)
              replace e0 := pw_cell_below hb9 e0
              replace e3 := pw_cell_below hb9 e3
              clear hb9
              go_wp2_with fail
              go_roundg (l.length - (i + 1))
              case measure => have := HIQ.out; have := HLT.out; omega
              case rel => exact ⟨i + 1, _, _, by first | rfl | rw [HW64.out], ⟨by have := HLT.out; omega, rfl⟩, ⟨HS8.out.below HBC.out⟩⟩
          · have hbe : (err == 0) = false := by simpa using he
            clear hd hd7 he
            cases mk with
            | true =>
              go_wp2_with fail
              go_roundg (l.length - (i + 1))
              case measure => have := HIQ.out; have := HLT.out; omega
              case rel => exact ⟨i + 1, _, _, by first | rfl | rw [HW64.out], ⟨by have := HLT.out; omega, rfl⟩, ⟨HS8.out.below HBC.out⟩⟩
            | false =>
              cases mk' with
              | true =>
                go_wp2_with fail
                refine ((HS8.out.below HBC.out).marking).mono ?_
                rintro e w9 ⟨rfl, hb9⟩
                replace HBC := Aside0.mk (below_step HBC.out hb9)
                replace e0 := pw_cell_below hb9 e0
                replace e3 := pw_cell_below hb9 e3
                clear hb9
                go_wp2_with fail
                go_roundg (l.length - (i + 1))
                case measure => have := HIQ.out; have := HLT.out; omega
                case rel => exact ⟨i + 1, _, _, by first | rfl | rw [HW64.out], ⟨by have := HLT.out; omega, rfl⟩, ⟨HS8.out.below HBC.out⟩⟩
              | false =>
                have hz := HOK.out.2.2 rfl rfl
                have hz1 : cnt ci 1 = 0 := hz.1
                have hz2 : cnt ci 2 = 0 := hz.2
                clear hz
                go_wp2_with fail
                refine ((HS8.out.below HBC.out).marking).mono ?_
                rintro e w9 ⟨rfl, hb9⟩
                replace HBC := Aside0.mk (below_step HBC.out hb9)
                replace e0 := pw_cell_below hb9 e0
                replace e3 := pw_cell_below hb9 e3
                clear hb9
                go_wp2_with fail
                refine (count_calls _ A8 c8 ci 1 (Kd.C_below HCI.out HBC.out) HIL.out).mono ?_
                rintro e w9 ⟨rfl, hb9⟩
                replace HBC := Aside0.mk (below_step HBC.out hb9)
                replace e0 := pw_cell_below hb9 e0
                replace e3 := pw_cell_below hb9 e3
                clear hb9
                go_wp2_with fail
                refine (count_calls _ A8 c8 ci 2 (Kd.C_below HCI.out HBC.out) HIL.out).mono ?_
                rintro e w9 ⟨rfl, hb9⟩
                replace HBC := Aside0.mk (below_step HBC.out hb9)
                replace e0 := pw_cell_below hb9 e0
                replace e3 := pw_cell_below hb9 e3
                clear hb9
                have hq1 : decide ((0 : Int) < wrap64 ((cnt ci 1 : Int) + (cnt ci 2 : Int))) = false := by rw [hz1, hz2]; exact zz0
                go_wp2_with fail
                go_roundg (l.length - (i + 1))
                case measure => have := HIQ.out; have := HLT.out; omega
                case rel => exact ⟨i + 1, _, _, by first | rfl | rw [HW64.out], ⟨by have := HLT.out; omega, rfl⟩, ⟨HS8.out.below HBC.out⟩⟩
        · have hb7 : (d == 7) = false := by simpa using hd7
          clear hd hd7
          cases mk with
          | true =>
            go_wp2_with fail
            go_roundg (l.length - (i + 1))
            case measure => have := HIQ.out; have := HLT.out; omega
            case rel => exact ⟨i + 1, _, _, by first | rfl | rw [HW64.out], ⟨by have := HLT.out; omega, rfl⟩, ⟨HS8.out.below HBC.out⟩⟩
          | false =>
            cases mk' with
            | true =>
              go_wp2_with fail
              refine ((HS8.out.below HBC.out).marking).mono ?_
              rintro e w9 ⟨rfl, hb9⟩
              replace HBC := Aside0.mk (below_step HBC.out hb9)
              replace e0 := pw_cell_below hb9 e0
              replace e3 := pw_cell_below hb9 e3
              clear hb9
              go_wp2_with fail
              go_roundg (l.length - (i + 1))
              case measure => have := HIQ.out; have := HLT.out; omega
              case rel => exact ⟨i + 1, _, _, by first | rfl | rw [HW64.out], ⟨by have := HLT.out; omega, rfl⟩, ⟨HS8.out.below HBC.out⟩⟩
            | false =>
              have hz := HOK.out.2.2 rfl rfl
              have hz1 : cnt ci 1 = 0 := hz.1
              have hz2 : cnt ci 2 = 0 := hz.2
              clear hz
              go_wp2_with fail
              refine ((HS8.out.below HBC.out).marking).mono ?_
              rintro e w9 ⟨rfl, hb9⟩
              replace HBC := Aside0.mk (below_step HBC.out hb9)
              replace e0 := pw_cell_below hb9 e0
              replace e3 := pw_cell_below hb9 e3
              clear hb9
              go_wp2_with fail
              refine (count_calls _ A8 c8 ci 1 (Kd.C_below HCI.out HBC.out) HIL.out).mono ?_
              rintro e w9 ⟨rfl, hb9⟩
              replace HBC := Aside0.mk (below_step HBC.out hb9)
              replace e0 := pw_cell_below hb9 e0
              replace e3 := pw_cell_below hb9 e3
              clear hb9
              go_wp2_with fail
              refine (count_calls _ A8 c8 ci 2 (Kd.C_below HCI.out HBC.out) HIL.out).mono ?_
              rintro e w9 ⟨rfl, hb9⟩
              replace HBC := Aside0.mk (below_step HBC.out hb9)
              replace e0 := pw_cell_below hb9 e0
              replace e3 := pw_cell_below hb9 e3
              clear hb9
              have hq1 : decide ((0 : Int) < wrap64 ((cnt ci 1 : Int) + (cnt ci 2 : Int))) = false := by rw [hz1, hz2]; exact zz0
              go_wp2_with fail
              go_roundg (l.length - (i + 1))
              case measure => have := HIQ.out; have := HLT.out; omega
              case rel => exact ⟨i + 1, _, _, by first | rfl | rw [HW64.out], ⟨by have := HLT.out; omega, rfl⟩, ⟨HS8.out.below HBC.out⟩⟩
    · have e_ : i = l.length := by have := HIQ.out; omega
      subst e_
      have hdec : decide ((l.length : Int) < (l.length : Int)) = false := decide_eq_false (by omega)
      have hdec2 : decide (l.length < l.length) = false := decide_eq_false hlt
      clear hlt
      go_wp2_with fail
      go_ret
      exact ⟨rfl, HS.out.low⟩
end Go.Proofs.Ytnimidkeoocchaa.PK
