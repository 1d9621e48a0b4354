/- Package ends: due walked. -/
import Derived.Test.YtnimidkeoocchaaEndsSo
import Derived.Deep.DeepCutAuto
set_option linter.unusedVariables false
set_option linter.unusedSimpArgs false
namespace Go.Proofs.Ytnimidkeoocchaa.End
open Go.RowKit Go.Proofs.YtnimidkeoocchaaW.PrintWords Go.Proofs.YtnimidkeoocchaaW.PrintLast Go.Proofs.YtnimidkeoocchaaW.PrintMore Go.Proofs.Ytnimidkeoocchaa.PE Go.Proofs.Ytnimidkeoocchaa.Rch Go.Proofs.Ytnimidkeoocchaa.Chk Go.Proofs.Ytnimidkeoocchaa.Fni Go.Proofs.Ytnimidkeoocchaa.Hnd

abbrev KH : Kd (List Int) := Kd.slice 3 (Kd.int .i64)
set_option maxHeartbeats 4000000 in
set_option maxRecDepth 100000 in
theorem need_calls (W : World) (b : Nat) (A : Option Addr) (c : Nat) (s : List Bool) (x : Int) (hb : W.heap[b]? = some (.cells #[.slice A s.length c] 48 (0, 0))) (hs : Kd.bool.C W A s.length s) (hx : 0 ≤ x ∧ x < (s.length : Int)) :
    Calls Try.prog 75 #[.int .i64 x, .pointer (some ⟨b, 0, none⟩)] W fun e w' => e = .returned (.bool (s.getD x.toNat false)) ∧ Below W.heap.size W w' := by
  have x0 := (blk_cell hb 0).trans rfl
  obtain ⟨ad, e, hy⟩ := Kd.at_bool hs x hx.1 hx.2
  subst e
  have hrd : rdOf false s x = s.getD x.toNat false := rfl
  rw [hrd] at hy
  have h0 := hx.1
  have h1 := hx.2
  generalize s.getD x.toNat false = r at hy ⊢
  clear hs hx hb hrd
  go_enter Try.func75, Try.ntmps75
  go_wp2
  go_ret
  exact ⟨rfl, Below.refl _ _⟩
theorem V_of_C {α : Type} {d : Kd α} (hd : Kd.Heap d) {w : World} {e base : Nat} {A : Option Addr} {c : Nat} {xs : List α} (h : d.C w A xs.length xs) (hc : xs.length ≤ c) : Kd.V d e w base (fun _ => True) (.slice A xs.length c) xs :=
  ⟨A, c, rfl, hc, fun W' hW => hd.C (fun k hk => hW k trivial hk) h⟩
theorem clone_f (xs : List Int) (h : xs.length ≤ 1000) : slices_Clone_int_int.f xs = some xs := by
  unfold slices_Clone_int_int.f
  simp
  omega
theorem R_flat {α : Type} {d : Kd α} {e B : Nat} {W W1 : World} {v : Value} {xs : List α} (hE : d.E = []) (h : d.R e W B (fun _ => True) v xs) (hm : ∀ k, v.ownBlock = some k → W1.heap[k]? = W.heap[k]?) : d.R e W1 B (fun _ => True) v xs :=
  Kd.R_mono (Kd.R_step (Kd.R_tight hE h) (fun k hk _ => hm k hk.symm)) (fun _ _ => trivial)
theorem grown_below {W W1 : World} {B : Nat} {row : Option Nat} (h : W.grownBy W1 row) (hB : B ≤ W.heap.size) (hr : ∀ k, row = some k → B ≤ k) : Below B W W1 :=
  ⟨h.os, h.tape, h.output, h.size, fun k hk => h.block k (by omega) (fun e => by have := hr k e.symm; omega)⟩
set_option maxHeartbeats 16000000 in
set_option maxRecDepth 100000 in
theorem due_ok (w : World) (AH : Option Addr) (cH : Nat) (has : List (List Int)) (AR : Option Addr) (cR : Nat) (roots : List Int) (A : Option Addr) (c : Nat) (l : List Int)
    (hH : KH.C w AH has.length has) (hcH : has.length ≤ cH) (hR : (Kd.int .i64).C w AR roots.length roots) (hcR : roots.length ≤ cR) (hl : (Kd.int .i64).C w A l.length l) (hlc : l.length ≤ c) (hE : dueE has roots l = 0) :
    Calls Try.prog 57 #[.agg #[.slice AH has.length cH, .slice AR roots.length cR], .slice A l.length c] w fun e w' => ∃ A1 c1 A2 c2, e = .returned (.tuple #[.slice A1 (dueL has roots l).length c1, .slice A2 (fromL has roots).length c2, .int .i64 0]) ∧
      (Kd.int .i64).R 3 w' w.heap.size (fun _ => True) (.slice A1 (dueL has roots l).length c1) (dueL has roots l) ∧ Kd.bool.R 4 w' w.heap.size (fun _ => True) (.slice A2 (fromL has roots).length c2) (fromL has roots) ∧ Below w.heap.size w w' := by
  obtain ⟨hck, hl100, hin⟩ := dueE_ok hE
  obtain ⟨hz1, hz2, hz3, hri, hhi⟩ := check_ok hck
  have hbx := below_alloc (Below.refl w.heap.size w) (Obj.cells #[.slice AH has.length cH, .slice AR roots.length cR] 38)
  have HBX := Aside0.mk hbx
  have HG := Aside0.mk (blk_new w (Obj.cells #[.slice AH has.length cH, .slice AR roots.length cR] 38))
  have HCK := Aside0.mk (weak_Check.calls (checkK has roots) (fun _ => True) AH cH has (fun _ => True) AR cR roots 0 _ (V_of_C (Kd.heap_slice _ (Kd.heap_int _)) (Kd.C_below hH hbx) hcH) (V_of_C (Kd.heap_int _) (Kd.C_below hR hbx) hcR) (by rw [check_f has roots _ (Nat.le_refl _), hck]))
  have HH := Aside0.mk hH
  have HR := Aside0.mk hR
  have HRC := Aside0.mk hcR
  have HL := Aside0.mk hl
  have HLC := Aside0.mk hlc
  have HIN := Aside0.mk hin
  have HHI : Aside0 (∀ r ∈ has, InR has.length r) := ⟨fun r hr x hx => hhi r hr x hx⟩
  have HRI : Aside0 (InR has.length roots) := ⟨hri⟩
  have HZ := Aside0.mk hz1
  have HLZ := Aside0.mk hl100
  have hgt : decide ((100 : Int) < (l.length : Int)) = false := decide_eq_false (by omega)
  clear hH hcH hR hcR hl hlc hE hck hin hz1 hz2 hz3 hri hhi hbx hl100
  go_enter Try.func57, Try.ntmps57
  go_wp2_with fail
  refine HCK.out.mono ?_
  rintro e w2 ⟨rfl, hd2⟩
  have HB2 := Aside0.mk (below_step HBX.out hd2)
  have HG2 := Aside0.mk (blk_below HG.out hd2)
  have g0 := (blk_cell HG2.out 0).trans rfl
  have g1 := (blk_cell HG2.out 1).trans rfl
  clear hd2 HCK
  go_wp2_with fail
  go_loopg [22] l.length (fun kq v22 W => ∃ i : Nat, v22 = .int .i64 (i : Int) ∧ Aside0 (i ≤ l.length ∧ kq = l.length - i) ∧ W = w2)
  case atStart => exact ⟨0, rfl, ⟨Nat.zero_le _, by omega⟩, rfl⟩
  case round =>
    obtain ⟨i, rfl, HIQ, rfl⟩ := hrel
    by_cases hlt : i < l.length
    · have hi0 : (0 : Int) ≤ (i : Int) := by omega
      have hi1 : (i : Int) < (l.length : Int) := by omega
      obtain ⟨ad, e, hx⟩ := Kd.at_int (Kd.C_below HL.out HB2.out) (i : Int) (by omega) (by omega)
      rw [Int.toNat_natCast, rdI hlt] at hx
      subst e
      have hdec : decide ((i : Int) < (l.length : Int)) = true := decide_eq_true hi1
      have hdec2 : decide (i < l.length) = true := decide_eq_true hlt
      have HLT := Aside0.mk hlt
      have hy := HIN.out _ (List.getElem_mem hlt)
      generalize l[i] = y at hx hy
      have hd0 : decide (y < 0) = false := decide_eq_false (by omega)
      have hd1 : decide ((has.length : Int) ≤ y) = false := decide_eq_false (by omega)
      have HW64 : Aside0 (wrap64 ((i : Int) + 1) = ((i + 1 : Nat) : Int)) := ⟨by have := HLZ.out; have := HLT.out; unfold wrap64; omega⟩
      clear hy hlt
      go_wp2_with fail
      go_roundg (l.length - (i + 1))
      case measure => have := HIQ.out; have := HLT.out; omega
      case rel => exact ⟨i + 1, by first | rfl | rw [HW64.out], ⟨by have := HLT.out; omega, rfl⟩, rfl⟩
    · have e_ : i = l.length := by have := HIQ.out; omega
      subst e_
      have hdec : decide ((l.length : Int) < (l.length : Int)) = false := decide_eq_false (by omega)
      have hdec2 : decide (l.length < l.length) = false := decide_eq_false hlt
      have HFR := Aside0.mk (from_calls wr AH cH has AR roots.length cR AR cR roots (Kd.C_below HH.out HB2.out) (Kd.C_below HR.out HB2.out) HRC.out HHI.out HRI.out (by have := HZ.out; omega))
      have HSL := Aside0.mk (fromL_length has roots)
      have HDL : Aside0 (dueL has roots l = Lib.compact (sortL (l.filter (fun n => !(fromL has roots).getD n.toNat false)))) := ⟨rfl⟩
      obtain ⟨D, hD⟩ : ∃ D, D = dueL has roots l := ⟨_, rfl⟩
      have HDD := Aside0.mk hD
      rw [← hD] at HDL
      obtain ⟨sn, hsn⟩ : ∃ sn, sn = fromL has roots := ⟨_, rfl⟩
      have HSN := Aside0.mk hsn
      rw [← hsn] at HFR HSL HDL
      clear hlt HIQ hsn hD
      go_wp2_with fail
      refine HFR.out.mono ?_
      rintro e w3 ⟨v3, rfl, hR3, hb3⟩
      obtain ⟨A3, c3, e3⟩ := Kd.R_slice hR3
      subst e3
      have hb4 := below_alloc (Below.refl w3.heap.size w3) (Obj.cells #[.slice A3 sn.length c3] 48)
      have hb34 := below_step hb3 hb4
      have HB4 := Aside0.mk (below_step HB2.out hb34)
      have HR4 := Aside0.mk (Kd.R_below hR3 hb4)
      have HK4 := Aside0.mk (blk_new w3 (Obj.cells #[.slice A3 sn.length c3] 48))
      have HB2S := Aside0.mk HB2.out.size
      have HWR := Aside0.mk hb3.size
      have HCL := Aside0.mk (slices_Clone_int_int.calls A c l l (w3.alloc (Obj.cells #[.slice A3 sn.length c3] 48)) (Kd.C_below HL.out HB4.out) HLC.out (clone_f l (by have := HLZ.out; omega)))
      have HSZ4 : Aside0 ((w3.alloc (Obj.cells #[.slice A3 sn.length c3] 48)).heap.size = w3.heap.size + 1) := ⟨blk_size⟩
      have HSZ3 := Aside0.mk hb3.size
      clear hR3 hb3 hb4 hb34 g0 g1
      go_wp2_with fail
      refine HCL.out.mono ?_
      rintro e w5 ⟨v5, rfl, hR5, hd5⟩
      have hb5 := hd5
      have HB5 := Aside0.mk (below_step HB4.out hb5)
      have HK5 := Aside0.mk (blk_below HK4.out hb5)
      have HR5 := Aside0.mk (Kd.R_below HR4.out hb5)
      have HO5 := Aside0.mk (Kd.own_of_R hR5)
      have HS5 := Aside0.mk hb5.size
      have HV5 := Aside0.mk (Kd.R_base hR5)
      generalize hN : (w3.alloc (Obj.cells #[.slice A3 sn.length c3] 48)).heap.size = N5 at HO5 HS5 HV5 HSZ4
      have HPR : Aside0 (PrI 75 #[.pointer (some ⟨w3.heap.size, 0, none⟩)] (fun n => sn.getD n.toNat false) l (fun k => v5.ownBlock = some k) w5) := ⟨fun W hs hk x hx => need_calls W w3.heap.size A3 c3 sn x
        ((hk _ (by have := HSZ4.out; have := HS5.out; omega) (fun e => by have := HV5.out _ e; have := HSZ4.out; omega)).trans HK5.out)
        (Kd.R_reads' (R_flat rfl HR5.out (fun k hk2 => hk k (Kd.R_lt HR5.out k hk2) (fun e => by
          have h1 := HV5.out _ e
          have h2 := Kd.R_lt HR4.out k hk2
          have h3 := blk_lt HK4.out
          rw [hN] at h2
          have h4 := Kd.R_ne HR4.out HK4.out (by decide)
          exact absurd h1 (by omega))))).2.2
        (by have h_ := HIN.out x hx; rw [HSL.out]; exact h_)⟩
      have HDF := Aside0.mk (del_calls 75 #[.pointer (some ⟨w3.heap.size, 0, none⟩)] (fun n => sn.getD n.toNat false) (Go.Proofs.enters_of Try.func75 (by kernel_rfl) rfl) w5 N5 v5 l HO5.out HPR.out (by have := HLZ.out; omega) HS5.out)
      have HFL : Aside0 ((l.filter (fun n => !sn.getD n.toNat false)).length ≤ 100) := ⟨Nat.le_trans (List.length_filter_le _ _) HLZ.out⟩
      generalize l.filter (fun n => !sn.getD n.toNat false) = fl at HDF HFL HDL
      clear hR5 hd5 hb5 HPR
      go_wp2_with fail
      refine HDF.out.mono ?_
      rintro e w6 ⟨v6, rfl, ho6, hv6, hf6, hb6⟩
      have HR6 : Aside0 (Kd.bool.R 4 w6 wr.heap.size (fun _ => True) (.slice A3 sn.length c3) sn) := ⟨R_flat rfl HR5.out (fun k hk2 => hb6.block k (by have h_ := Kd.R_lt HR4.out k hk2; rw [hN] at h_; exact h_))⟩
      have HK6 := Aside0.mk (blk_deeper HK5.out hb6 (by have := HSZ4.out; omega))
      have HB6 : Aside0 (Below w.heap.size w w6) := ⟨HB5.out.trans (below_cut hb6 (by have := HSZ4.out; have := HSZ3.out; have := HB2S.out; omega))⟩
      have HN6 := Aside0.mk (Nat.le_trans HS5.out hb6.size)
      have HSO := Aside0.mk (sort_own w6 N5 v6 fl ho6 (by have := HFL.out; omega))
      have HVB : Aside0 (∀ k, v6.ownBlock = some k → N5 ≤ k) := ⟨fun k hk => (ho6.lt k hk).1⟩
      clear ho6 hv6 hf6 hb6
      go_wp2_with fail
      refine HSO.out.mono ?_
      rintro e w7 ⟨rfl, ho7, hg7⟩
      have hb7 := grown_below hg7 HN6.out HVB.out
      have HR7 : Aside0 (Kd.bool.R 4 w7 wr.heap.size (fun _ => True) (.slice A3 sn.length c3) sn) := ⟨R_flat rfl HR6.out (fun k hk2 => hb7.block k (by have h_ := Kd.R_lt HR4.out k hk2; rw [hN] at h_; exact h_))⟩
      have HK7 := Aside0.mk (blk_deeper HK6.out hb7 (by have := HSZ4.out; omega))
      have HB7 : Aside0 (Below w.heap.size w w7) := ⟨HB6.out.trans (below_cut hb7 (by have := HSZ4.out; have := HSZ3.out; have := HB2S.out; omega))⟩
      have HN7 := Aside0.mk (Nat.le_trans HN6.out hb7.size)
      have HSL7 := Aside0.mk (sort_spec fl).2.1
      rw [← HSL7.out] at ho7
      have HO7 := Aside0.mk ho7
      generalize sortL fl = zs at HO7 HDL HSL7
      have y0 := (blk_cell HK7.out 0).trans rfl
      clear ho7 hg7 hb7 HSO HDF
      go_wp2_with fail
      refine start_ (n := 6) (S := fun w' => Below N5 w7 w' ∧ w'.cell? ⟨w3.heap.size, 0, none⟩ = some (.slice A3 sn.length c3)) (ds := []) #[false, false, false, false, false, false] (by kernel_rfl) rfl rfl ⟨(below_drew (Below.refl _ _)), y0⟩ (fun hHeld => ?_)
      refine pure_ (i := 0) (N := some 46) (v := ?_) (a' := ?_) #[true, false, false, false, false, false] rfl rfl (by kernel_rfl) (fun _ _ _ h => h) (Or.inl ⟨by rfl, ?_⟩) ?_ ?_
      rotate_left
      · intro w'
        go_simp
        with_reducible rfl
      rotate_left
      · simp only [Act.put, List.setIfInBounds_toArray, List.set_cons_zero, List.set_cons_succ, i64_w, i32_w]
        rfl
      refine take_ (i := 2) (N := some 48) (v := ?_) (a' := ?_) #[true, false, true, false, false, false] rfl rfl (by kernel_rfl) (fun _ _ _ h => h) (Or.inl ⟨by rfl, ?_⟩) hHeld ?_ ?_
      rotate_left
      · rintro w' ⟨s0, s1⟩
        go_simp
        with_reducible rfl
      rotate_left
      · simp only [Act.put, List.setIfInBounds_toArray, List.set_cons_zero, List.set_cons_succ, i64_w, i32_w]
        rfl
      refine one_ (i := 1) (N := some 47) #[true, true, true, false, false, false] rfl rfl (by kernel_rfl) (by decide) (fun K hK => ?_)
      refine goes_ Try.func76 (by kernel_rfl) rfl #[v6] (by rfl) rfl rfl (by simp only [List.map_toArray, List.map_cons, List.map_nil]; rfl) ?_
      with_reducible refine (compact_own w7.drew N5 v6 zs (own_sameH (w := w7) HO7.out (fun _ _ => rfl)) (by have := HSL7.out; have := HFL.out; omega)).mono ?_
      rintro e w8 ⟨A8, c8, rfl, ho8, hv8, hg8⟩
      refine ⟨_, rfl, ?_⟩
      have hb8 := grown_below hg8 (Nat.le_trans HN7.out hHeld.1.size) HVB.out
      have HO8 := Aside0.mk ho8
      have HB8 := Aside0.mk (hHeld.1.trans hb8)
      refine hK.out _ _ ⟨hHeld.1.trans hb8, cell_deeper hHeld.2 hb8 (by have := HSZ4.out; show w3.heap.size < N5; omega)⟩ (fun hHeld => ?_)
      clear hK K
      refine norm_ (a' := ?_) ?_ ?_
      rotate_left
      · show Act.put _ (some 47) _ = _
        simp only [Act.put, List.setIfInBounds_toArray, List.set_cons_zero, List.set_cons_succ, i64_w, i32_w]
        rfl
      refine pure_ (i := 3) (N := some 4) (v := ?_) (a' := ?_) #[true, true, true, true, false, false] rfl rfl (by kernel_rfl) (fun _ _ _ h => h) (Or.inl ⟨by rfl, ?_⟩) ?_ ?_
      rotate_left
      · intro w'
        go_simp
        with_reducible rfl
      rotate_left
      · simp only [Act.put, List.setIfInBounds_toArray, List.set_cons_zero, List.set_cons_succ, i64_w, i32_w]
        rfl
      refine pure_ (i := 4) (N := some 5) (v := ?_) (a' := ?_) #[true, true, true, true, true, false] rfl rfl (by kernel_rfl) (fun _ _ _ h => h) (Or.inl ⟨by rfl, ?_⟩) ?_ ?_
      rotate_left
      · intro w'
        go_simp
        with_reducible rfl
      rotate_left
      · simp only [Act.put, List.setIfInBounds_toArray, List.set_cons_zero, List.set_cons_succ, i64_w, i32_w]
        rfl
      refine pure_ (i := 5) (N := some 6) (v := ?_) (a' := ?_) #[true, true, true, true, true, true] rfl rfl (by kernel_rfl) (fun _ _ _ h => h) (Or.inl ⟨by rfl, ?_⟩) ?_ ?_
      rotate_left
      · intro w'
        go_simp
        with_reducible rfl
      rotate_left
      · simp only [Act.put, List.setIfInBounds_toArray, List.set_cons_zero, List.set_cons_succ, i64_w, i32_w]
        rfl
      refine done_ (by kernel_rfl) ?_
      go_wp2_with fail
      go_ret3
      have hbz : wr.heap.size ≤ N5 := by have := HSZ4.out; have := HSZ3.out; omega
      have hbz2 : w.heap.size ≤ wr.heap.size := HB2S.out
      rw [← HDD.out, ← HSN.out, HDL.out]
      refine ⟨A8, c8, A3, c3, rfl, Kd.R_lower (Kd.R_of_own (enc := Value.int .i64) (h1 := fun _ => rfl) HO8.out (fun _ _ => trivial)) (Nat.le_trans hbz2 hbz), Kd.R_lower (R_flat rfl HR7.out (fun k hk2 => HB8.out.block k (by have h_ := Kd.R_lt HR4.out k hk2; rw [hN] at h_; exact h_))) hbz2, HB7.out.trans (below_cut HB8.out (Nat.le_trans hbz2 hbz))⟩
end Go.Proofs.Ytnimidkeoocchaa.End
