/- The law function HaulWhole: what it answers. -/
import Derived.Test.YtoleplbmkdhgeaaHaulMo2
import Derived.Test.YtoleplbmkdhgeaaHaulOb
import Derived.Deep.DeepCutAuto
set_option linter.unusedVariables false
set_option linter.unusedSimpArgs false
namespace Go.Proofs.Ytoleplbmkdhgeaa.PQ
open Go.RowKit Go.Proofs.YtoleplbmkdhgeaaW.PrintWords Go.Proofs.YtoleplbmkdhgeaaW.PrintLast Go.Proofs.YtoleplbmkdhgeaaW.PrintMore Go.Proofs.Ytoleplbmkdhgeaa.Hnd Go.Proofs.Ytoleplbmkdhgeaa.Hal Go.Proofs.Ytoleplbmkdhgeaa.Nb

open Classical in
noncomputable def backstitchkeep3_HaulWhole.f (k : Nat) (l0_0 l0_1 : List Int) : Option Bool := if (∀ x ∈ l0_0, U64 x) ∧ (∀ x ∈ l0_1, U64 x) then some true else none
set_option maxHeartbeats 16000000 in
set_option maxRecDepth 100000 in
theorem backstitchkeep3_HaulWhole.calls (k : Nat) (A0_0 : Option Addr) (c0_0 : Nat) (l0_0 : List Int) (A0_1 : Option Addr) (c0_1 : Nat) (l0_1 : List Int) (r : Bool) (w : World)
    (hr0_0 : Kd.C (Kd.int .u64) w A0_0 l0_0.length l0_0) (hc0_0 : l0_0.length ≤ c0_0) (hr0_1 : Kd.C (Kd.int .u64) w A0_1 l0_1.length l0_1) (hc0_1 : l0_1.length ≤ c0_1) (h : backstitchkeep3_HaulWhole.f k l0_0 l0_1 = some r) :
    Calls Try.prog 13 #[.agg #[.slice A0_0 l0_0.length c0_0, .slice A0_1 l0_1.length c0_1]] w fun e w' => e = .returned (.bool r) ∧ Below w.heap.size w w' := by
  unfold backstitchkeep3_HaulWhole.f at h
  have hok : (∀ x ∈ l0_0, U64 x) ∧ (∀ x ∈ l0_1, U64 x) := by
    by_cases hx : (∀ x ∈ l0_0, U64 x) ∧ (∀ x ∈ l0_1, U64 x)
    · exact hx
    · rw [if_neg hx] at h; exact absurd h (by simp)
  rw [if_pos hok] at h
  obtain rfl := Option.some.inj h
  have H0 := Aside0.mk hr0_0
  have H1 := Aside0.mk hr0_1
  have C0 := Aside0.mk hc0_0
  have C1 := Aside0.mk hc0_1
  have HU := Aside0.mk hok.1
  have HV := Aside0.mk hok.2
  have hb0 : Below w.heap.size w (w.alloc (Obj.cells #[.slice A0_0 l0_0.length c0_0, .slice A0_1 l0_1.length c0_1] 51)) := below_alloc (Below.refl _ _) _
  have hk0 := heap_alloc_new w (Obj.cells #[.slice A0_0 l0_0.length c0_0, .slice A0_1 l0_1.length c0_1] 51)
  have HB0 := Aside0.mk hb0
  have HK0 := Aside0.mk hk0
  clear h hok hr0_0 hr0_1 hc0_0 hc0_1 hb0 hk0
  go_enter Try.func13, Try.ntmps13
  go_wp2_with fail
  refine (hauled_calls _).mono ?_
  rintro e w1 ⟨rfl, hb⟩
  have hk1 := blk_below HK0.out hb
  have HK1 := Aside0.mk hk1
  have HB1 : Aside0 (Below w.heap.size w w1) := ⟨below_step HB0.out hb⟩
  have hq0 : w1.cell? ⟨w.heap.size, 0, none⟩ = some (.slice A0_0 l0_0.length c0_0) := (blk_cell hk1 0).trans rfl
  have hq1 : w1.cell? ⟨w.heap.size, 1, none⟩ = some (.slice A0_1 l0_1.length c0_1) := (blk_cell hk1 1).trans rfl
  clear hb hk1 HB0 HK0
  go_wp2_with fail
  refine (objects_calls w1 A0_0 c0_0 l0_0 A0_1 c0_1 l0_1 (Kd.C_below H0.out HB1.out) C0.out (Kd.C_below H1.out HB1.out) HU.out HV.out).mono ?_
  clear hq0 hq1
  rintro e w2 (⟨h0, rfl, hb⟩ | ⟨h0, hh, v2, rfl, hr, hb⟩)
  · have HB2 : Aside0 (Below w.heap.size w w2) := ⟨HB1.out.trans (below_cut hb HB1.out.size)⟩
    generalize chkE l0_0 l0_1 (objF l0_0).1 (objF l0_0).2 = E at h0 ⊢
    have hd : (E != 0) = true := by simp [h0]
    have hd2 : decide (E = 0) = false := decide_eq_false h0
    clear hb h0
    go_wp2_with fail
    refine (hauled_calls _).mono ?_
    rintro e w3 ⟨rfl, hb⟩
    have HB3 : Aside0 (Below w.heap.size w w3) := ⟨below_step HB2.out hb⟩
    clear hb
    go_wp2
    go_ret
    exact ⟨rfl, HB3.out⟩
  have HH := Aside0.mk hh
  have HIS := Aside0.mk (heap_of h0).1
  obtain ⟨A2, c2, rfl, hc2, hC2⟩ := Kd.R_reads hr
  have HC2 := Aside0.mk hC2
  have HK2 : Aside0 (w2.heap[w.heap.size]? = some (.cells #[.slice A0_0 l0_0.length c0_0, .slice A0_1 l0_1.length c0_1] 51 (0, 0))) := ⟨blk_below HK1.out hb⟩
  have HB2 : Aside0 (Below w.heap.size w w2) := ⟨HB1.out.trans (below_cut hb HB1.out.size)⟩
  have HOF : Aside0 ((objF l0_0).2 = true) := HIS
  have hol : (objF l0_0).1.length ≤ l0_0.length := objW_len _ _
  have HOL : Aside0 ((objF l0_0).1.length ≤ 2000) := ⟨by have := hh.len; omega⟩
  have HOB : Aside0 (objF l0_0 = ((objF l0_0).1, true)) := ⟨by rw [← HIS.out]⟩
  generalize hos : (objF l0_0).1 = os at HH HC2 HOL HOB ⊢
  clear h0 hb hr hC2 hc2 hh HB1 HK1 hol HOF HIS hos
  by_cases hle : os.length ≤ 100
  rotate_left
  · have hd : decide ((os.length : Int) > 100) = true := decide_eq_true (by omega)
    have hd2 : decide (os.length > 100) = true := decide_eq_true (by omega)
    clear hle
    go_wp2_with fail
    refine (hauled_calls _).mono ?_
    rintro e w3 ⟨rfl, hb⟩
    have HB3 : Aside0 (Below w.heap.size w w3) := ⟨below_step HB2.out hb⟩
    clear hb
    go_wp2
    go_ret
    exact ⟨rfl, HB3.out⟩
  have hd : decide ((os.length : Int) > 100) = false := decide_eq_false (by omega)
  have hd2 : decide (os.length > 100) = false := decide_eq_false (by omega)
  have HLE := Aside0.mk hle
  have HU49 := Try.underlying49
  clear hle
  go_wp2_with fail
  clear hd hd2
  go_loopg [5, 30] os.length (fun kq v5 v30 W => ∃ i : Nat, v30 = .int .i64 (i : Int) ∧ Aside0 (i ≤ os.length ∧ kq = os.length - i) ∧ Aside0 (Kd.R (Kd.int .u64) 57 W w2.heap.size (fun _ => True) v5 ((os.take i).map refW)) ∧ Aside0 (Below w2.heap.size w2 W))
  case atStart => exact ⟨0, rfl, ⟨Nat.zero_le _, by omega⟩, ⟨Kd.R_nil _ _ _ _ _⟩, ⟨Below.refl _ _⟩⟩
  case round =>
    obtain ⟨i, rfl, HIQ, HR5, HB⟩ := hrel
    obtain ⟨A5, c5, e5⟩ := Kd.R_slice HR5.out
    subst e5
    by_cases hlt : i < os.length
    · have hi0 : (0 : Int) ≤ (i : Int) := by omega
      have hi1 : (i : Int) < (os.length : Int) := by omega
      obtain ⟨ad, rfl, hx⟩ := Kd.at_int (Kd.C_below HC2.out HB.out) (i : Int) hi0 hi1
      rw [Int.toNat_natCast, rdg _ _ hlt] at hx
      have hfit := HH.out.ok.fit _ (List.getElem_mem hlt)
      have hlen := HH.out.len
      have hdec : decide ((i : Int) < (os.length : Int)) = true := decide_eq_true hi1
      have hdec2 : decide (i < os.length) = true := decide_eq_true hlt
      have HLT := Aside0.mk hlt
      have HSN : Aside0 ((os.take (i + 1)).map refW = (os.take i).map refW ++ [refW os[i]]) := ⟨by rw [List.take_succ_eq_append_getElem hlt, List.map_append]; rfl⟩
      have HBX : Aside0 (nanbox_Box.f 2 5 os[i] = some (refW os[i], 0)) := ⟨box_ref hfit.1 (by omega)⟩
      have HTL : Aside0 (((os.take i).map refW).length ≤ 1000) := ⟨by rw [List.length_map, List.length_take]; have := HLE.out; omega⟩
      generalize os[i] = u at hx HSN HBX
      generalize (os.take i).map refW = outs at HR5 HSN HTL ⊢
      clear hlt hfit hlen
      go_wp2_with fail
      refine (nanbox_Box.calls 2 5 u (refW u) 0 wr HBX.out).mono ?_
      rintro e w6 ⟨rfl, hb⟩
      have HB2w : Aside0 (Below w2.heap.size w2 w6) := ⟨below_step HB.out hb⟩
      have HR52 : Aside0 (Kd.R (Kd.int .u64) 57 w6 w2.heap.size (fun _ => True) (.slice A5 outs.length c5) outs) := ⟨Kd.R_below HR5.out hb⟩
      clear hb hx hdec hdec2 hi0 hi1
      go_wp2_with (first | ((with_reducible refine gate_builtin (b := .append) (xs := #[.tmp 42, .tmp 44]) rfl ?_); refine Kd.R_append (Kd.int .u64) (w0 := w2) w2.heap.size rfl (.tmp 42) (.tmp 44) 49 57 (.int .u64 0) 8 rfl HU49 info_u64 rfl (by decide) (by decide) (.slice A5 outs.length c5) outs (refW u) [.int .u64 (refW u)] (fun _ => True) (fun _ => False) rfl rfl rfl (fun _ hk => hk.elim) (fun _ _ => trivial) HR52.out HB2w.out ?hbs ?hl ?_; (case hbs => exact HB2w.out.size); (case hl => have h_ := HTL.out; omega); intro v3 w3 ho hb hg3 hat; have HR3 := Aside0.mk ho; have HB3 := Aside0.mk hb; clear ho hb hg3 hat))
      go_roundg (os.length - (i + 1))
      case measure => have := HIQ.out; have := HLT.out; omega
      case rel => exact ⟨i + 1, by first | rfl | (have := HLT.out; have := HOL.out; rw [show wrap64 ((i : Int) + 1) = ((i + 1 : Nat) : Int) from by unfold wrap64; omega]), ⟨by have := HLT.out; omega, rfl⟩, ⟨by rw [HSN.out]; exact HR3.out⟩, HB3⟩
    · have e_ : i = os.length := by have := HIQ.out; omega
      subst e_
      rw [List.take_length] at HR5 ⊢
      have HRU := Aside0.mk (refs_u64 HH.out)
      have HRA := Aside0.mk (refs_all HH.out)
      have HCK : Aside0 (chkE l0_0 (os.map refW) (objF l0_0).1 (objF l0_0).2 = 0) := ⟨by rw [HOB.out]; exact refs_chk HH.out HLE.out⟩
      generalize os.map refW = rs at HR5 HRU HRA HCK ⊢
      obtain ⟨A5', c5', e5, hc5, hC5⟩ := Kd.R_reads HR5.out
      injection e5 with e5 e5a e5b
      subst e5
      have hdec : decide ((os.length : Int) < (os.length : Int)) = false := decide_eq_false (by omega)
      have hdec2 : decide (os.length < os.length) = false := decide_eq_false hlt
      have HBW : Aside0 (Below w.heap.size w wr) := ⟨HB2.out.trans (below_cut HB.out HB2.out.size)⟩
      have hkr := blk_below HK2.out HB.out
      have HKR := Aside0.mk hkr
      have hq0 : wr.cell? ⟨w.heap.size, 0, none⟩ = some (.slice A0_0 l0_0.length c0_0) := (blk_cell hkr 0).trans rfl
      have hcall := collect_h wr A0_0 c0_0 l0_0 A5 c5 rs (Kd.C_below H0.out HBW.out) C0.out hC5 HU.out HRU.out
      have HCALL := Aside0.mk hcall
      clear hlt HIQ hkr hcall hc5 hC5 e5a e5b
      go_wp2_with fail
      refine HCALL.out.mono ?_
      clear hq0
      rintro e w7 (⟨h0, _⟩ | ⟨_, hh2, c, fs, outs2, vto2, vouts2, vold2, rfl, hF, hr1, hr2, hr3, hb⟩)
      · exact (h0 HCK.out).elim
      rw [HOB.out] at hF
      have hh3 : Heap l0_0 rs os := by have h_ := hh2; unfold HeapOf at h_; rw [HOB.out] at h_; exact h_
      obtain ⟨z1, z2⟩ := fin_whole hh3 hF HRA.out
      clear hh3
      obtain ⟨A7, c7, rfl⟩ := Kd.R_slice hr1
      obtain ⟨A8, c8, rfl⟩ := Kd.R_slice hr2
      obtain ⟨A9, c9, rfl⟩ := Kd.R_slice hr3
      have HK7 : Aside0 (w7.heap[w.heap.size]? = some (.cells #[.slice A0_0 l0_0.length c0_0, .slice A0_1 l0_1.length c0_1] 51 (0, 0))) := ⟨blk_below HKR.out hb⟩
      have HB7 : Aside0 (Below w.heap.size w w7) := ⟨HBW.out.trans (below_cut hb HBW.out.size)⟩
      have y1 : ((c.dst.length : Int) == (l0_0.length : Int)) = true := by rw [z1]; simp
      have y1b : (c.dst.length == l0_0.length) = true := by rw [z1]; simp
      have y2 : ((c.mvs.length : Int) == (os.length : Int)) = true := by rw [z2]; simp
      have y2b : (c.mvs.length == os.length) = true := by rw [z2]; simp
      clear hb hr1 hr2 hr3 hF hh2 z1 z2 hdec hdec2 HCALL HCK
      go_upto_region 16 with fail
      generalize hw8 : World.alloc _ _ = w8
      have hd8 : w8.heap[w7.heap.size]? = some (.cells #[.slice A7 c.dst.length c7, .slice A8 outs2.length c8] 51 (0, 0)) := by
        rw [← hw8]
        exact heap_alloc_new _ _
      have hb8 : Below w7.heap.size w7 w8 := by
        rw [← hw8]
        exact below_alloc (Below.refl _ _) _
      have HD8 := Aside0.mk hd8
      have HK8 := Aside0.mk (blk_below HK7.out hb8)
      have HB8 : Aside0 (Below w.heap.size w w8) := ⟨HB7.out.trans (below_cut hb8 HB7.out.size)⟩
      clear hw8 hd8 hb8
      go_wp2_with fail
      refine (hauled_calls _).mono ?_
      rintro e w9 ⟨rfl, hb⟩
      have HB9 : Aside0 (Below w.heap.size w w9) := ⟨below_step HB8.out hb⟩
      have hq0 : w9.cell? ⟨w.heap.size, 0, none⟩ = some (.slice A0_0 l0_0.length c0_0) := (blk_cell (blk_below HK8.out hb) 0).trans rfl
      have hq1 : w9.cell? ⟨w7.heap.size, 0, none⟩ = some (.slice A7 c.dst.length c7) := (blk_cell (blk_below HD8.out hb) 0).trans rfl
      clear hb
      go_wp2
      go_ret
      exact ⟨rfl, HB9.out⟩
end Go.Proofs.Ytoleplbmkdhgeaa.PQ
