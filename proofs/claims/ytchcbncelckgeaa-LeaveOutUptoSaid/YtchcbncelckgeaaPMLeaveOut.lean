/- The law function LeaveOut: what it answers (under way). -/
import Derived.Test.YtchcbncelckgeaaLeaveOv
set_option linter.unusedVariables false
set_option linter.unusedSimpArgs false
namespace Go.Proofs.Ytchcbncelckgeaa.PM
open Go.RowKit Go.Proofs.YtchcbncelckgeaaW.PrintWords Go.Proofs.YtchcbncelckgeaaW.PrintLast Go.Proofs.YtchcbncelckgeaaW.PrintMore Go.Proofs.Ytchcbncelckgeaa.Hnd Go.Proofs.Ytchcbncelckgeaa.LeavePM Go.Proofs.Ytchcbncelckgeaa.Lvo

theorem bare_sm {l3 : List Td} (h : ∀ t ∈ l3, SmT t) {t m : Nat} (ht : t < l3.length) (hm : m < (l3.getD t z62).f0.length) : SmF ((l3.getD t z62).f0.getD m z27) := by
  have e : l3.getD t z62 = l3[t] := by rw [List.getD_eq_getElem?_getD, List.getElem?_eq_getElem ht]; rfl
  have h1 := (h l3[t] (List.getElem_mem ht)).2
  rw [← e] at h1
  rw [List.getD_eq_getElem?_getD, List.getElem?_eq_getElem hm]
  exact h1 _ (List.getElem_mem hm)
theorem doset_len (vals : List Vl) (l : List S34) : ∀ r : List Vl, (l.foldl (doset vals) r).length = r.length := by
  induction l with
  | nil => intro r; rfl
  | cons a l ih => intro r; rw [List.foldl_cons, ih]; unfold doset; simp
theorem frF_sm (vals : List Vl) (sets : List S34) (xa : Int) (f : Fm) (h : SmF f) : SmF (frF vals sets xa f).1 := by
  unfold frF
  split
  · exact ⟨by simp only [doset_len]; exact h.1, h.2⟩
  · exact ⟨by simp [z27], by simp [z27]⟩
theorem out_fs {l3 : List Td} {t m : Nat} (ht : t < l3.length) (hm : (l3.getD t z62).f0.length = m + 1) (fn : Fm) : ((newTh l3 t ((l3.getD t z62).f0.length - 1) fn).getD t z62).f0 = (l3.getD t z62).f0.set m fn := by
  unfold newTh
  rw [hm, Nat.add_sub_cancel]
  generalize l3.getD t z62 = h_
  rw [List.getD_eq_getElem?_getD, List.getElem?_set_self ht]
  rfl
theorem cells_len (vals : List Vl) : ∀ (ms : List S46) (out : List S50), (cellsL vals ms out).1.length ≤ out.length
  | [], out => Nat.le_refl _
  | m :: ms, out => by
    unfold cellsL
    split
    · split
      · exact Nat.le_trans (cells_len vals ms _) (by simp)
      · simp
    · simp
theorem new_fs {l3 : List Td} {t m : Nat} (hm : (l3.getD t z62).f0.length = m + 1) (fn : Fm) (ht : t < l3.length) (i : Nat) : ((newTh l3 t ((l3.getD t z62).f0.length - 1) fn).getD i z62).f0 = if i = t then (l3.getD i z62).f0.set m fn else (l3.getD i z62).f0 := by
  by_cases h : i = t
  · subst h
    rw [if_pos rfl]
    exact out_fs ht hm fn
  · rw [if_neg h]
    unfold newTh
    rw [List.getD_eq_getElem?_getD, List.getElem?_set_ne (fun e => h e.symm), ← List.getD_eq_getElem?_getD]
theorem atF_fr {w : World} {ok : Nat → Prop} {A : Option Addr} {n : Nat} {xs : List Fm} (h : Kd.F k27 w ok A n xs) (i : Int) (h0 : 0 ≤ i) (h1 : i < n) : ∃ ad A6 c6 A7 c7, A = some ad ∧ w.cell? (ad.add (i.toNat * 8)) = some (.int .i64 (rd_T27 xs i).f0) ∧ w.cell? ⟨(ad.add (i.toNat * 8)).block, (ad.add (i.toNat * 8)).off + 1, none⟩ = some (.int .i64 (rd_T27 xs i).f1) ∧ w.cell? ⟨(ad.add (i.toNat * 8)).block, (ad.add (i.toNat * 8)).off + 2, none⟩ = some (.int .i64 (rd_T27 xs i).f2) ∧ w.cell? ⟨(ad.add (i.toNat * 8)).block, (ad.add (i.toNat * 8)).off + 3, none⟩ = some (.int .i64 (rd_T27 xs i).f3) ∧ w.cell? ⟨(ad.add (i.toNat * 8)).block, (ad.add (i.toNat * 8)).off + 4, none⟩ = some (.int .i64 (rd_T27 xs i).f4.f0) ∧ w.cell? ⟨(ad.add (i.toNat * 8)).block, (ad.add (i.toNat * 8)).off + 5, none⟩ = some (.int .i64 (rd_T27 xs i).f4.f1) ∧ w.cell? ⟨(ad.add (i.toNat * 8)).block, (ad.add (i.toNat * 8)).off + 6, none⟩ = some (.slice A6 (rd_T27 xs i).f5.length c6) ∧ w.cell? ⟨(ad.add (i.toNat * 8)).block, (ad.add (i.toNat * 8)).off + 7, none⟩ = some (.slice A7 (rd_T27 xs i).f6.length c7) ∧ (rd_T27 xs i).f5.length ≤ c6 ∧ Kd.F k23 w ok A6 (rd_T27 xs i).f5.length (rd_T27 xs i).f5 ∧ (rd_T27 xs i).f6.length ≤ c7 ∧ Kd.F k111 w ok A7 (rd_T27 xs i).f6.length (rd_T27 xs i).f6 := by
  obtain ⟨ad, c, e, _, hK, hc0⟩ := Kd.F_get h z27 i h0 h1
  have hc : ∀ j u, c[j]? = some u → w.cell? (ad.add (i.toNat * 8 + j)) = some u := hc0.1
  obtain ⟨A6, c6, A7, c7, rfl, l6, g6, l7, g7⟩ := k27_openF hK
  exact ⟨ad, A6, c6, A7, c7, e, hc 0 _ rfl, by rw [← add_field _ _ 1 (by omega)]; exact hc 1 _ rfl, by rw [← add_field _ _ 2 (by omega)]; exact hc 2 _ rfl, by rw [← add_field _ _ 3 (by omega)]; exact hc 3 _ rfl, by rw [← add_field _ _ 4 (by omega)]; exact hc 4 _ rfl, by rw [← add_field _ _ 5 (by omega)]; exact hc 5 _ rfl, by rw [← add_field _ _ 6 (by omega)]; exact hc 6 _ rfl, by rw [← add_field _ _ 7 (by omega)]; exact hc 7 _ rfl, l6, g6, l7, g7⟩
theorem atF_th {w : World} {ok : Nat → Prop} {A : Option Addr} {n : Nat} {xs : List Td} (h : Kd.F k62 w ok A n xs) (i : Int) (h0 : 0 ≤ i) (h1 : i < n) : ∃ ad A0 c0, A = some ad ∧ w.cell? (ad.add (i.toNat * 5)) = some (.slice A0 (rd_T62 xs i).f0.length c0) ∧ (rd_T62 xs i).f0.length ≤ c0 ∧ Kd.F k27 w ok A0 (rd_T62 xs i).f0.length (rd_T62 xs i).f0 := by
  obtain ⟨ad, c, e, _, hK, hc0⟩ := Kd.F_get h z62 i h0 h1
  have hc : ∀ j u, c[j]? = some u → w.cell? (ad.add (i.toNat * 5 + j)) = some u := hc0.1
  obtain ⟨A0, c0, rfl, l0, g0⟩ := k62_openF hK
  exact ⟨ad, A0, c0, e, hc 0 _ rfl, l0, g0⟩
open Classical in
noncomputable def backstitchkeep3_LeaveOut.f (k : Nat) (l0_0 : List S50) (l0_1 : List S68) (l0_2 : List ByteArray) (l0_3 : List Td) (l0_4 : List S71) (l0_5 : List Vl) (a0_6 a0_7 a1 a2_0 a2_1 : Int) (l2_2 : List S34) (l2_3 : List S46) (l3 : List Vl) : Option Bool := if SmS l0_0 l0_1 l0_2 l0_3 l0_4 l0_5 ∧ SmX l2_2 l2_3 then some true else none
set_option maxHeartbeats 16000000 in
set_option maxRecDepth 100000 in
theorem backstitchkeep3_LeaveOut.calls (k : Nat) (A0_0 : Option Addr) (c0_0 : Nat) (l0_0 : List S50) (A0_1 : Option Addr) (c0_1 : Nat) (l0_1 : List S68) (A0_2 : Option Addr) (c0_2 : Nat) (l0_2 : List ByteArray) (A0_3 : Option Addr) (c0_3 : Nat) (l0_3 : List Td) (A0_4 : Option Addr) (c0_4 : Nat) (l0_4 : List S71) (A0_5 : Option Addr) (c0_5 : Nat) (l0_5 : List Vl) (a0_6 a0_7 a1 a2_0 a2_1 : Int) (A2_2 : Option Addr) (c2_2 : Nat) (l2_2 : List S34) (A2_3 : Option Addr) (c2_3 : Nat) (l2_3 : List S46) (A3 : Option Addr) (c3 : Nat) (l3 : List Vl) (r : Bool) (w : World)
    (hr0_0 : Kd.C k50 w A0_0 l0_0.length l0_0) (hc0_0 : l0_0.length ≤ c0_0) (hr0_1 : Kd.C k68 w A0_1 l0_1.length l0_1) (hc0_1 : l0_1.length ≤ c0_1) (hr0_2 : Kd.C Kd.string w A0_2 l0_2.length l0_2) (hc0_2 : l0_2.length ≤ c0_2) (hr0_3 : Kd.C k62 w A0_3 l0_3.length l0_3) (hc0_3 : l0_3.length ≤ c0_3) (hr0_4 : Kd.C k71 w A0_4 l0_4.length l0_4) (hc0_4 : l0_4.length ≤ c0_4) (hr0_5 : Kd.C k23 w A0_5 l0_5.length l0_5) (hc0_5 : l0_5.length ≤ c0_5) (hr2_2 : Kd.C k34 w A2_2 l2_2.length l2_2) (hc2_2 : l2_2.length ≤ c2_2) (hr2_3 : Kd.C k46 w A2_3 l2_3.length l2_3) (hc2_3 : l2_3.length ≤ c2_3) (hr3 : Kd.C k23 w A3 l3.length l3) (hc3 : l3.length ≤ c3)
    (h : backstitchkeep3_LeaveOut.f k l0_0 l0_1 l0_2 l0_3 l0_4 l0_5 a0_6 a0_7 a1 a2_0 a2_1 l2_2 l2_3 l3 = some r) :
    Calls Try.prog 6 #[.agg #[.slice A0_0 l0_0.length c0_0, .slice A0_1 l0_1.length c0_1, .slice A0_2 l0_2.length c0_2, .slice A0_3 l0_3.length c0_3, .slice A0_4 l0_4.length c0_4, .slice A0_5 l0_5.length c0_5, .int .i64 a0_6, .int .i64 a0_7], .int .i64 a1, .agg #[.int .i64 a2_0, .int .i64 a2_1, .slice A2_2 l2_2.length c2_2, .slice A2_3 l2_3.length c2_3], .slice A3 l3.length c3] w fun e w' => e = .returned (.bool r) ∧ Below w.heap.size w w' := by
  unfold backstitchkeep3_LeaveOut.f at h
  have hok : SmS l0_0 l0_1 l0_2 l0_3 l0_4 l0_5 ∧ SmX l2_2 l2_3 := by
    by_cases hx : SmS l0_0 l0_1 l0_2 l0_3 l0_4 l0_5 ∧ SmX l2_2 l2_3
    · exact hx
    · rw [if_neg hx] at h; exact absurd h (by simp)
  rw [if_pos hok] at h
  obtain rfl := Option.some.inj h
  have HOK := Aside0.mk hok
  obtain ⟨ob1, hob1⟩ : ∃ ob, ob = Obj.cells #[.slice A0_0 l0_0.length c0_0, .slice A0_1 l0_1.length c0_1, .slice A0_2 l0_2.length c0_2, .slice A0_3 l0_3.length c0_3, .slice A0_4 l0_4.length c0_4, .slice A0_5 l0_5.length c0_5, .int .i64 a0_6, .int .i64 a0_7] 57 := ⟨_, rfl⟩
  obtain ⟨ob2, hob2⟩ : ∃ ob, ob = Obj.cells #[.int .i64 a2_0, .int .i64 a2_1, .slice A2_2 l2_2.length c2_2, .slice A2_3 l2_3.length c2_3] 31 := ⟨_, rfl⟩
  have hbx := below_alloc (below_alloc (Below.refl w.heap.size w) ob1) ob2
  have HSB : Aside0 (((w.alloc ob1).alloc ob2).heap[w.heap.size]? = some (.cells #[.slice A0_0 l0_0.length c0_0, .slice A0_1 l0_1.length c0_1, .slice A0_2 l0_2.length c0_2, .slice A0_3 l0_3.length c0_3, .slice A0_4 l0_4.length c0_4, .slice A0_5 l0_5.length c0_5, .int .i64 a0_6, .int .i64 a0_7] 57 (0, 0))) := ⟨blk_alloc (by rw [hob1]; exact blk_new w _) _⟩
  have HXB : Aside0 (((w.alloc ob1).alloc ob2).heap[w.heap.size + 1]? = some (.cells #[.int .i64 a2_0, .int .i64 a2_1, .slice A2_2 l2_2.length c2_2, .slice A2_3 l2_3.length c2_3] 31 (0, 0))) := ⟨by
    have h_ := blk_new (w.alloc ob1) ob2
    rw [show (w.alloc ob1).heap.size = w.heap.size + 1 from Array.size_push _] at h_
    rw [hob2] at h_ ⊢
    exact h_⟩
  have HBX := Aside0.mk hbx
  have HR0 := Aside0.mk (Kd.C_F k50_heap hr0_0)
  have HC0 := Aside0.mk hc0_0
  have HR1 := Aside0.mk (Kd.C_F k68_heap hr0_1)
  have HC1 := Aside0.mk hc0_1
  have HR2 := Aside0.mk (Kd.C_F Kd.heap_string hr0_2)
  have HC2 := Aside0.mk hc0_2
  have HR3 := Aside0.mk (Kd.C_F k62_heap hr0_3)
  have HC3 := Aside0.mk hc0_3
  have HR4 := Aside0.mk (Kd.C_F k71_heap hr0_4)
  have HC4 := Aside0.mk hc0_4
  have HR5 := Aside0.mk (Kd.C_F k23_heap hr0_5)
  have HC5 := Aside0.mk hc0_5
  have HX2 := Aside0.mk (And.intro hr2_2 hc2_2)
  have HX3 := Aside0.mk (And.intro hr2_3 hc2_3)
  have HV3 := Aside0.mk (And.intro hr3 hc3)
  clear hr2_2 hc2_2 hr2_3 hc2_3 hr3 hc3 hr0_0 hc0_0 hr0_1 hc0_1 hr0_2 hc0_2 hr0_3 hc0_3 hr0_4 hc0_4 hr0_5 hc0_5 hbx hok h
  rw [hob1, hob2] at HSB HXB HBX
  clear hob1 hob2
  go_enter Try.func6, Try.ntmps6
  go_wp2_with fail
  refine (backstitchkeep3_leftBy.calls 4 true _ (leftBy_f 4 (Nat.le_refl _))).mono ?_
  rintro e w1 ⟨rfl, hb1⟩
  have HB1 := Aside0.mk (below_step HBX.out hb1)
  have HSB1 := Aside0.mk (blk_below HSB.out hb1)
  have HXB1 := Aside0.mk (blk_below HXB.out hb1)
  clear hb1 HSB HXB HBX
  have k0 := (blk_cell HSB1.out 0).trans rfl
  have k1 := (blk_cell HSB1.out 1).trans rfl
  have k2 := (blk_cell HSB1.out 2).trans rfl
  have k3 := (blk_cell HSB1.out 3).trans rfl
  have k4 := (blk_cell HSB1.out 4).trans rfl
  have k5 := (blk_cell HSB1.out 5).trans rfl
  have k6 := (blk_cell HSB1.out 6).trans rfl
  have k7 := (blk_cell HSB1.out 7).trans rfl
  have x0 := (blk_cell HXB1.out 0).trans rfl
  have x1 := (blk_cell HXB1.out 1).trans rfl
  have x2 := (blk_cell HXB1.out 2).trans rfl
  have x3 := (blk_cell HXB1.out 3).trans rfl
  go_wp2_with fail
  refine (out_all _ w.heap.size HB1.out.size (Kd.F_below HR0.out HB1.out) HC0.out (Kd.F_below HR1.out HB1.out) HC1.out (Kd.F_below HR2.out HB1.out) HC2.out (Kd.F_below HR3.out HB1.out) HC3.out (Kd.F_below HR4.out HB1.out) HC4.out (Kd.F_below HR5.out HB1.out) HC5.out (Kd.C_below HX2.out.1 HB1.out) HX2.out.2 (Kd.C_below HX3.out.1 HB1.out) HX3.out.2 (Kd.C_below HV3.out.1 HB1.out) HV3.out.2 HOK.out.1 HOK.out.2).mono ?_
  rintro e w2 ⟨v, err, rfl, hLO, hb2⟩
  obtain ⟨B0, n0, d0, B1, n1, d1, B2, n2, d2, B3, n3, d3, B4, n4, d4, B5, n5, d5, x6, x7, ev⟩ := hLO.form
  subst ev
  obtain ⟨ob, hob⟩ : ∃ ob, ob = Obj.cells #[.slice B0 n0 d0, .slice B1 n1 d1, .slice B2 n2 d2, .slice B3 n3 d3, .slice B4 n4 d4, .slice B5 n5 d5, .int .i64 x6, .int .i64 x7] 57 := ⟨_, rfl⟩
  have hal := below_alloc (Below.refl w2.heap.size w2) ob
  have HBy := Aside0.mk (below_step HB1.out (below_step hb2 hal))
  have HSBy := Aside0.mk (blk_below (blk_below HSB1.out hb2) hal)
  have HXBy := Aside0.mk (blk_below (blk_below HXB1.out hb2) hal)
  have HLO := Aside0.mk (hLO.step (fun k _ hlt => hal.block k hlt))
  have HYB : Aside0 ((w2.alloc ob).heap[w2.heap.size]? = some (.cells #[.slice B0 n0 d0, .slice B1 n1 d1, .slice B2 n2 d2, .slice B3 n3 d3, .slice B4 n4 d4, .slice B5 n5 d5, .int .i64 x6, .int .i64 x7] 57 (0, 0))) := ⟨by rw [hob]; exact blk_new w2 _⟩
  have HGL : Aside0 (w1.heap.size ≤ w2.heap.size ∧ w.heap.size + 2 ≤ w2.heap.size) := ⟨hb2.size, by have h_ := (Array.getElem?_eq_some_iff.1 HXB1.out).1; have := hb2.size; omega⟩
  clear hLO hal HB1 HSB1 HXB1 k0 k1 k2 k3 k4 k5 k6 k7 x0 x1 x2 x3 hb2
  by_cases hbad : badT l0_3 a1
  · have he : err = 5 ∧ ∀ (_ : True), True := ⟨by
      rcases HLO.out with ⟨_, h2, _⟩ | ⟨h1, _⟩ | ⟨h1, _⟩ | ⟨h1, _⟩
      · exact h2
      · exact absurd hbad h1
      · exact absurd hbad h1
      · exact absurd hbad h1, fun _ => trivial⟩
    obtain ⟨rfl, _⟩ := he
    have HBAD := Aside0.mk hbad
    have y3 := (blk_cell HSBy.out 3).trans rfl
    rw [hob] at y3
    clear hbad
    by_cases h0 : a1 < 0
    · have hd0 : decide (a1 < 0) = true := decide_eq_true h0
      clear h0
      go_wp2_with fail
      refine (backstitchkeep3_leftBy.calls 4 true _ (leftBy_f 4 (Nat.le_refl _))).mono ?_
      rintro e w8 ⟨rfl, hb8⟩
      rw [← hob] at hb8
      have HB8 := Aside0.mk (below_step HBy.out hb8)
      clear hb8
      go_wp2_with fail
      go_ret
      exact ⟨rfl, HB8.out⟩
    · have hd0 : decide (a1 < 0) = false := decide_eq_false h0
      by_cases h1 : (l0_3.length : Int) ≤ a1
      · have hd1 : decide ((l0_3.length : Int) ≤ a1) = true := decide_eq_true h1
        clear h0 h1
        go_wp2_with fail
        refine (backstitchkeep3_leftBy.calls 4 true _ (leftBy_f 4 (Nat.le_refl _))).mono ?_
        rintro e w8 ⟨rfl, hb8⟩
        rw [← hob] at hb8
        have HB8 := Aside0.mk (below_step HBy.out hb8)
        clear hb8
        go_wp2_with fail
        go_ret
        exact ⟨rfl, HB8.out⟩
      · have hd1 : decide ((l0_3.length : Int) ≤ a1) = false := decide_eq_false h1
        have hfe : (rd_T62 l0_3 a1).f0 = [] := by
          rcases HBAD.out with h_ | h_ | h_
          · exact absurd h_ h0
          · exact absurd h_ h1
          · exact h_
        obtain ⟨ad3, F0, g0, eA3, hx3, _, _, _, _, hg0, hF0⟩ := at_T62 (Kd.F_now (Kd.F_below HR3.out HBy.out)) a1 (by omega) (by omega)
        subst eA3
        rw [hfe] at hx3
        rw [hob] at hx3
        have p0 : (0 : Int) ≤ a1 := by omega
        have p1 : a1 < (l0_3.length : Int) := by omega
        clear h0 h1 hg0 hF0 hfe
        go_wp2_with fail
        refine (backstitchkeep3_leftBy.calls 4 true _ (leftBy_f 4 (Nat.le_refl _))).mono ?_
        rintro e w8 ⟨rfl, hb8⟩
        rw [← hob] at hb8
        have HB8 := Aside0.mk (below_step HBy.out hb8)
        clear hb8
        go_wp2_with fail
        go_ret
        exact ⟨rfl, HB8.out⟩
  · have h0 : ¬ a1 < 0 := fun h_ => hbad (.inl h_)
    have h1 : ¬ (l0_3.length : Int) ≤ a1 := fun h_ => hbad (.inr (.inl h_))
    have hfe : (rd_T62 l0_3 a1).f0 ≠ [] := fun h_ => hbad (.inr (.inr h_))
    have hd0 : decide (a1 < 0) = false := decide_eq_false h0
    have hd1 : decide ((l0_3.length : Int) ≤ a1) = false := decide_eq_false h1
    obtain ⟨ad3, F0, g0, eA3, hx3, _, _, _, _, hg0, hF0⟩ := at_T62 (Kd.F_now (Kd.F_below HR3.out HBy.out)) a1 (by omega) (by omega)
    subst eA3
    obtain ⟨fs, hfs⟩ : ∃ fs, fs = (rd_T62 l0_3 a1).f0 := ⟨_, rfl⟩
    rw [← hfs] at hx3 hfe hg0 hF0
    have hz : ((fs.length : Int) == 0) = false := by
      have := List.length_pos_iff.2 hfe
      rw [beq_eq_false_iff_ne]; omega
    have p0 : (0 : Int) ≤ a1 := by omega
    have p1 : a1 < (l0_3.length : Int) := by omega
    have HFS := Aside0.mk hfs
    have HFE := Aside0.mk hfe
    have HG0 := Aside0.mk hg0
    have HF0 := Aside0.mk hF0
    have HBAD := Aside0.mk hbad
    have y3 := (blk_cell HSBy.out 3).trans rfl
    have y0 := (blk_cell HSBy.out 0).trans rfl
    have x0 := (blk_cell HXBy.out 0).trans rfl
    have x1 := (blk_cell HXBy.out 1).trans rfl
    have x2 := (blk_cell HXBy.out 2).trans rfl
    have x3 := (blk_cell HXBy.out 3).trans rfl
    rw [hob] at y3 y0 x0 x1 x2 x3 hx3
    clear hfs hfe hg0 hF0 hbad h0 h1
    go_wp2_with fail
    rw [← hob]
    generalize w2.alloc ob = wy at HBy HSBy HXBy HLO HYB HF0 ⊢
    clear y3 y0 x0 x1 x2 x3 hx3 hob
    generalize w2.heap.size = gl at HYB HGL ⊢
    obtain ⟨KC, hKC⟩ := cells_f l0_0 a2_0 a2_1 l2_2 l2_3 l3 HOK.out.1.cs HOK.out.1.cm HOK.out.2.ml HOK.out.2.mm
    refine (leave_Cells.calls KC (fun k => k < w.heap.size) A0_0 c0_0 l0_0 a2_0 a2_1 A2_2 c2_2 l2_2 A2_3 c2_3 l2_3 A3 c3 l3 (cellsL l3 l2_3 l0_0).1 (cellsL l3 l2_3 l0_0).2 _ (Kd.V_mk HC0.out (Kd.F_below HR0.out HBy.out)) (Kd.C_below HX2.out.1 HBy.out) HX2.out.2 (Kd.C_below HX3.out.1 HBy.out) HX3.out.2 (Kd.C_below HV3.out.1 HBy.out) HV3.out.2 (hKC KC (Nat.le_refl _))).mono ?_
    rintro e w3 ⟨v0, rfl, hN, hb3⟩
    obtain ⟨C0, cc0, rfl⟩ := Kd.N_slice hN
    have HCL := Aside0.mk (And.intro (Kd.N_reads' hN).2.1 (Kd.N_F hN))
    have HB3 := Aside0.mk (below_step HBy.out hb3)
    have HSB3 := Aside0.mk (blk_below HSBy.out hb3)
    have HXB3 := Aside0.mk (blk_below HXBy.out hb3)
    have HYB3 := Aside0.mk (blk_below HYB.out hb3)
    have HLO3 := Aside0.mk (HLO.out.step (fun k _ hlt => hb3.block k hlt))
    have HF03 := Aside0.mk (Kd.C_below HF0.out hb3)
    have HLY : Aside0 (gl < wy.heap.size ∧ wy.heap.size ≤ w3.heap.size) := ⟨(Array.getElem?_eq_some_iff.1 HYB.out).1, hb3.size⟩
    clear hN hKC hb3 HBy HSBy HXBy HYB HLO HF0
    generalize hyz : wy.heap.size = yz at HCL HLY
    clear hyz
    obtain ⟨m, hm⟩ : ∃ m, fs.length = m + 1 := ⟨fs.length - 1, by have := List.length_pos_iff.2 HFE.out; omega⟩
    obtain ⟨ad5, A6, c6, A7, c7, eF0, q0, q1, q2, q3, q4, q5, q6, q7, hc6, hF6, hc7, hF7⟩ := at_T27 HF03.out (m : Int) (by omega) (by omega)
    subst eF0
    obtain ⟨fm, hfm⟩ : ∃ fm, fm = rd_T27 fs (m : Int) := ⟨_, rfl⟩
    rw [← hfm] at q0 q1 q2 q3 q4 q5 q6 q7 hc6 hF6 hc7 hF7
    rw [Int.toNat_natCast] at q0 q1 q2 q3 q4 q5 q6 q7
    have hwm : wrap64 ((fs.length : Int) - 1) = (m : Int) := by
      have h_ := Kd.C_max HF03.out
      rw [hm]
      rw [hm] at h_
      unfold wrap64; omega
    have hml : (m : Int) < (fs.length : Int) := by omega
    have hm0 : (0 : Int) ≤ (m : Int) := by omega
    have htn : a1.toNat < l0_3.length := by omega
    have hsm : SmF fm := by
      have h_ := bare_sm HOK.out.1.tm htn (m := m) (by show m < (rd_T62 l0_3 a1).f0.length; rw [← HFS.out, hm]; omega)
      rw [hfm]
      unfold rd_T27
      rw [Int.toNat_natCast, HFS.out]
      exact h_
    have HFL : Aside0 (frL l0_3 a1.toNat l3 l2_2 a2_0 = frF l3 l2_2 a2_0 fm) := ⟨by
      unfold frL
      rw [hfm]
      unfold rd_T27
      rw [Int.toNat_natCast]
      show frF l3 l2_2 a2_0 ((rd_T62 l0_3 a1).f0.getD ((rd_T62 l0_3 a1).f0.length - 1) z27) = _
      rw [← HFS.out, hm, Nat.add_sub_cancel]⟩
    have HFC := Aside0.mk (frF_f l3 l2_2 l2_3 a2_0 a2_1 fm hsm HOK.out.2.st (l2_2.length + 3) (Nat.le_refl _))
    have HNS : Aside0 (SmF (frF l3 l2_2 a2_0 fm).1) := ⟨frF_sm _ _ _ _ hsm⟩
    obtain ⟨fn, hfn⟩ : ∃ fn, fn = (frF l3 l2_2 a2_0 fm).1 := ⟨_, rfl⟩
    obtain ⟨ef, hef⟩ : ∃ ef, ef = (frF l3 l2_2 a2_0 fm).2 := ⟨_, rfl⟩
    rw [← hfn] at HNS
    rw [← hfn, ← hef] at HFC
    have HFN := Aside0.mk (And.intro hfn hef)
    have HM := Aside0.mk hm
    have HFM := Aside0.mk hfm
    have HF67 := Aside0.mk (And.intro hF6 hF7)
    have HC67 := Aside0.mk (And.intro hc6 hc7)
    have x0 := (blk_cell HXB3.out 0).trans rfl
    have x1 := (blk_cell HXB3.out 1).trans rfl
    have x2 := (blk_cell HXB3.out 2).trans rfl
    have x3 := (blk_cell HXB3.out 3).trans rfl
    clear hm hfm hF6 hF7 hc6 hc7 hfn hef hsm htn
    go_wp2_with fail
    refine start_ (n := 15) (S := fun w' => Below w3.heap.size w3 w' ∧ w'.cell? (ad5.add (m * 8)) = some (.int .i64 fm.f0) ∧ w'.cell? ⟨(ad5.add (m * 8)).block, (ad5.add (m * 8)).off + 1, none⟩ = some (.int .i64 fm.f1) ∧ w'.cell? ⟨(ad5.add (m * 8)).block, (ad5.add (m * 8)).off + 2, none⟩ = some (.int .i64 fm.f2) ∧ w'.cell? ⟨(ad5.add (m * 8)).block, (ad5.add (m * 8)).off + 3, none⟩ = some (.int .i64 fm.f3) ∧ w'.cell? ⟨(ad5.add (m * 8)).block, (ad5.add (m * 8)).off + 4, none⟩ = some (.int .i64 fm.f4.f0) ∧ w'.cell? ⟨(ad5.add (m * 8)).block, (ad5.add (m * 8)).off + 5, none⟩ = some (.int .i64 fm.f4.f1) ∧ w'.cell? ⟨(ad5.add (m * 8)).block, (ad5.add (m * 8)).off + 6, none⟩ = some (.slice A6 fm.f5.length c6) ∧ w'.cell? ⟨(ad5.add (m * 8)).block, (ad5.add (m * 8)).off + 7, none⟩ = some (.slice A7 fm.f6.length c7) ∧ w'.cell? ⟨w.heap.size + 1, 0, none⟩ = some (.int .i64 a2_0) ∧ w'.cell? ⟨w.heap.size + 1, 1, none⟩ = some (.int .i64 a2_1) ∧ w'.cell? ⟨w.heap.size + 1, 2, none⟩ = some (.slice A2_2 l2_2.length c2_2) ∧ w'.cell? ⟨w.heap.size + 1, 3, none⟩ = some (.slice A2_3 l2_3.length c2_3)) (ds := [13]) #[false, false, false, false, false, false, false, false, false, false, false, false, false, false, false] (by kernel_rfl) rfl rfl ⟨(below_drew (Below.refl _ _)), q0, q1, q2, q3, q4, q5, q6, q7, x0, x1, x2, x3⟩ (fun hHeld => ?_)
    generalize w3.drew = w16 at hHeld ⊢
    refine pure_ (i := 0) (N := some 71) (v := ?_) (a' := ?_) #[true, false, false, false, false, false, false, false, false, false, false, false, false, false, false] rfl rfl (by kernel_rfl) (fun _ _ _ h => h) (Or.inl ⟨by rfl, ?_⟩) ?_ ?_
    rotate_left
    · intro w'
      go_simp
      with_reducible rfl
    rotate_left
    · simp only [Act.put, List.setIfInBounds_toArray, List.set_cons_zero, List.set_cons_succ, i64_w, i32_w]
      rfl
    refine pure_ (i := 1) (N := some 72) (v := ?_) (a' := ?_) #[true, true, false, false, false, false, false, false, false, false, false, false, false, false, false] rfl rfl (by kernel_rfl) (fun _ _ _ h => h) (Or.inl ⟨by rfl, ?_⟩) ?_ ?_
    rotate_left
    · intro w'
      go_simp
      with_reducible rfl
    rotate_left
    · simp only [Act.put, List.setIfInBounds_toArray, List.set_cons_zero, List.set_cons_succ, i64_w, i32_w]
      rfl
    refine pure_ (i := 2) (N := some 73) (v := ?_) (a' := ?_) #[true, true, true, false, false, false, false, false, false, false, false, false, false, false, false] rfl rfl (by kernel_rfl) (fun _ _ _ h => h) (Or.inl ⟨by rfl, ?_⟩) ?_ ?_
    rotate_left
    · intro w'
      go_simp
      with_reducible rfl
    rotate_left
    · simp only [Act.put, List.setIfInBounds_toArray, List.set_cons_zero, List.set_cons_succ, i64_w, i32_w]
      rfl
    refine pure_ (i := 3) (N := some 74) (v := ?_) (a' := ?_) #[true, true, true, true, false, false, false, false, false, false, false, false, false, false, false] rfl rfl (by kernel_rfl) (fun _ _ _ h => h) (Or.inl ⟨by rfl, ?_⟩) ?_ ?_
    rotate_left
    · intro w'
      go_simp
      with_reducible rfl
    rotate_left
    · simp only [Act.put, List.setIfInBounds_toArray, List.set_cons_zero, List.set_cons_succ, i64_w, i32_w]
      rfl
    refine pure_ (i := 4) (N := some 75) (v := ?_) (a' := ?_) #[true, true, true, true, true, false, false, false, false, false, false, false, false, false, false] rfl rfl (by kernel_rfl) (fun _ _ _ h => h) (Or.inl ⟨by rfl, ?_⟩) ?_ ?_
    rotate_left
    · intro w'
      go_simp
      with_reducible rfl
    rotate_left
    · simp only [Act.put, List.setIfInBounds_toArray, List.set_cons_zero, List.set_cons_succ, i64_w, i32_w]
      rfl
    refine pure_ (i := 7) (N := some 78) (v := ?_) (a' := ?_) #[true, true, true, true, true, false, false, true, false, false, false, false, false, false, false] rfl rfl (by kernel_rfl) (fun _ _ _ h => h) (Or.inl ⟨by rfl, ?_⟩) ?_ ?_
    rotate_left
    · intro w'
      go_simp
      with_reducible rfl
    rotate_left
    · simp only [Act.put, List.setIfInBounds_toArray, List.set_cons_zero, List.set_cons_succ, i64_w, i32_w]
      rfl
    refine take_ (i := 5) (N := some 76) (v := ?_) (a' := ?_) #[true, true, true, true, true, true, false, true, false, false, false, false, false, false, false] rfl rfl (by kernel_rfl) (fun _ _ _ h => h) (Or.inl ⟨by rfl, ?_⟩) hHeld ?_ ?_
    rotate_left
    · rintro w' ⟨s0, s1, s2, s3, s4, s5, s6, s7, s8, s9, s10, s11, s12⟩
      go_simp
      with_reducible rfl
    rotate_left
    · simp only [Act.put, List.setIfInBounds_toArray, List.set_cons_zero, List.set_cons_succ, i64_w, i32_w]
      rfl
    refine take_ (i := 6) (N := some 77) (v := ?_) (a' := ?_) #[true, true, true, true, true, true, true, true, false, false, false, false, false, false, false] rfl rfl (by kernel_rfl) (fun _ _ _ h => h) (Or.inl ⟨by rfl, ?_⟩) hHeld ?_ ?_
    rotate_left
    · rintro w' ⟨s0, s1, s2, s3, s4, s5, s6, s7, s8, s9, s10, s11, s12⟩
      go_simp
      with_reducible rfl
    rotate_left
    · simp only [Act.put, List.setIfInBounds_toArray, List.set_cons_zero, List.set_cons_succ, i64_w, i32_w]
      rfl
    refine join_ (σ := (Option Addr × Nat) × (Option Addr × Nat) × Nat) 2 #[true, true, true, true, true, true, true, true, true, true, true, true, true, false, false] (fun s => [(79, .tuple #[.agg #[.int .i64 fn.f0, .int .i64 fn.f1, .int .i64 fn.f2, .int .i64 fn.f3, .int .i64 fn.f4.f0, .int .i64 fn.f4.f1, .slice s.1.1 fn.f5.length s.1.2, .slice s.2.1.1 fn.f6.length s.2.1.2], .int .i64 ef]), (14, .pointer (some ⟨s.2.2, 0, none⟩)), (70, .tuple #[.agg #[.int .i64 fn.f0, .int .i64 fn.f1, .int .i64 fn.f2, .int .i64 fn.f3, .int .i64 fn.f4.f0, .int .i64 fn.f4.f1, .slice s.1.1 fn.f5.length s.1.2, .slice s.2.1.1 fn.f6.length s.2.1.2], .int .i64 ef]), (80, .agg #[.int .i64 fn.f0, .int .i64 fn.f1, .int .i64 fn.f2, .int .i64 fn.f3, .int .i64 fn.f4.f0, .int .i64 fn.f4.f1, .slice s.1.1 fn.f5.length s.1.2, .slice s.2.1.1 fn.f6.length s.2.1.2]), (81, .int .i64 ef)]) (fun s w' => (Below w3.heap.size w3 w' ∧ w'.cell? (ad5.add (m * 8)) = some (.int .i64 fm.f0) ∧ w'.cell? ⟨(ad5.add (m * 8)).block, (ad5.add (m * 8)).off + 1, none⟩ = some (.int .i64 fm.f1) ∧ w'.cell? ⟨(ad5.add (m * 8)).block, (ad5.add (m * 8)).off + 2, none⟩ = some (.int .i64 fm.f2) ∧ w'.cell? ⟨(ad5.add (m * 8)).block, (ad5.add (m * 8)).off + 3, none⟩ = some (.int .i64 fm.f3) ∧ w'.cell? ⟨(ad5.add (m * 8)).block, (ad5.add (m * 8)).off + 4, none⟩ = some (.int .i64 fm.f4.f0) ∧ w'.cell? ⟨(ad5.add (m * 8)).block, (ad5.add (m * 8)).off + 5, none⟩ = some (.int .i64 fm.f4.f1) ∧ w'.cell? ⟨(ad5.add (m * 8)).block, (ad5.add (m * 8)).off + 6, none⟩ = some (.slice A6 fm.f5.length c6) ∧ w'.cell? ⟨(ad5.add (m * 8)).block, (ad5.add (m * 8)).off + 7, none⟩ = some (.slice A7 fm.f6.length c7) ∧ w'.cell? ⟨w.heap.size + 1, 0, none⟩ = some (.int .i64 a2_0) ∧ w'.cell? ⟨w.heap.size + 1, 1, none⟩ = some (.int .i64 a2_1) ∧ w'.cell? ⟨w.heap.size + 1, 2, none⟩ = some (.slice A2_2 l2_2.length c2_2) ∧ w'.cell? ⟨w.heap.size + 1, 3, none⟩ = some (.slice A2_3 l2_3.length c2_3)) ∧ (fn.f5.length ≤ s.1.2 ∧ Kd.F k23 w' (fun k => k ≠ s.2.2) s.1.1 fn.f5.length fn.f5 ∧ fn.f6.length ≤ s.2.1.2 ∧ Kd.F k111 w' (fun k => k ≠ s.2.2) s.2.1.1 fn.f6.length fn.f6) ∧ w'.heap[s.2.2]? = some (.cells #[.int .i64 0, .int .i64 0, .int .i64 0, .int .i64 0, .int .i64 0, .int .i64 0, .slice none 0 0, .slice none 0 0] 27 (0, 0)) ∧ w3.heap.size ≤ s.2.2) ?_ ?_
    rotate_left
    · intro hCont
      refine two_ (i := 8) (j := 12) (Ni := some 79) (Nj := some 14) #[true, true, true, true, true, true, true, true, true, false, false, false, false, false, false] #[true, true, true, true, true, true, true, true, false, false, false, false, true, false, false] rfl rfl rfl rfl (by kernel_rfl) (by decide) (by decide) (fun K hK => ?_) (fun K hK => ?_)
      · skip
        refine goes_ Try.func16 (by kernel_rfl) rfl #[.agg #[.int .i64 fm.f0, .int .i64 fm.f1, .int .i64 fm.f2, .int .i64 fm.f3, .int .i64 fm.f4.f0, .int .i64 fm.f4.f1, .slice A6 fm.f5.length c6, .slice A7 fm.f6.length c7], .agg #[.int .i64 a2_0, .int .i64 a2_1, .slice A2_2 l2_2.length c2_2, .slice A2_3 l2_3.length c2_3], .slice A3 l3.length c3] (by rfl) rfl rfl (by simp only [List.map_toArray, List.map_cons, List.map_nil]; rfl) ?_
        with_reducible refine (leave_Frame.calls (l2_2.length + 3) fm.f0 fm.f1 fm.f2 fm.f3 fm.f4.f0 fm.f4.f1 A6 c6 fm.f5 A7 c7 fm.f6 a2_0 a2_1 A2_2 c2_2 l2_2 A2_3 c2_3 l2_3 A3 c3 l3 fn.f0 fn.f1 fn.f2 fn.f3 fn.f4.f0 fn.f4.f1 fn.f5 fn.f6 ef _ (Kd.C_below HF67.out.1 hHeld.1) HC67.out.1 (Kd.C_below HF67.out.2 hHeld.1) HC67.out.2 (Kd.C_below HX2.out.1 (below_step HB3.out hHeld.1)) HX2.out.2 (Kd.C_below HX3.out.1 (below_step HB3.out hHeld.1)) HX3.out.2 (Kd.C_below HV3.out.1 (below_step HB3.out hHeld.1)) HV3.out.2 HFC.out).mono ?_
        rintro e w9 ⟨v6, v7, rfl, hR6, hR7, hb9⟩
        refine ⟨_, rfl, ?_⟩
        have hR6 := Kd.R_mono (ok' := fun k => k < w9.heap.size) (Kd.R_bound hR6) (fun k hk => hk.2.2.1)
        have hR7 := Kd.R_mono (ok' := fun k => k < w9.heap.size) (Kd.R_bound hR7) (fun k hk => hk.2.2.1)
        obtain ⟨B6, e6, rfl⟩ := Kd.R_slice hR6
        obtain ⟨B7, e7, rfl⟩ := Kd.R_slice hR7
        have hG := And.intro (Kd.R_reads' hR6).2.1 (And.intro (Kd.R_F hR6) (And.intro (Kd.R_reads' hR7).2.1 (Kd.R_F hR7)))
        clear hR6 hR7
        refine hK.out _ _ ⟨below_step hHeld.1 hb9, pw_cell_below hb9 hHeld.2.1, pw_cell_below hb9 hHeld.2.2.1, pw_cell_below hb9 hHeld.2.2.2.1, pw_cell_below hb9 hHeld.2.2.2.2.1, pw_cell_below hb9 hHeld.2.2.2.2.2.1, pw_cell_below hb9 hHeld.2.2.2.2.2.2.1, pw_cell_below hb9 hHeld.2.2.2.2.2.2.2.1, pw_cell_below hb9 hHeld.2.2.2.2.2.2.2.2.1, pw_cell_below hb9 hHeld.2.2.2.2.2.2.2.2.2.1, pw_cell_below hb9 hHeld.2.2.2.2.2.2.2.2.2.2.1, pw_cell_below hb9 hHeld.2.2.2.2.2.2.2.2.2.2.2.1, pw_cell_below hb9 hHeld.2.2.2.2.2.2.2.2.2.2.2.2⟩ (fun hHeld => ?_)
        clear hK K
        refine norm_ (a' := ?_) ?_ ?_
        rotate_left
        · show Act.put _ (some 79) _ = _
          simp only [Act.put, List.setIfInBounds_toArray, List.set_cons_zero, List.set_cons_succ, i64_w, i32_w]
          rfl
        refine pure_ (i := 9) (N := some 70) (v := ?_) (a' := ?_) #[true, true, true, true, true, true, true, true, true, true, false, false, false, false, false] rfl rfl (by kernel_rfl) (fun _ _ _ h => h) (Or.inl ⟨by rfl, ?_⟩) ?_ ?_
        rotate_left
        · intro w'
          go_simp
          with_reducible rfl
        rotate_left
        · simp only [Act.put, List.setIfInBounds_toArray, List.set_cons_zero, List.set_cons_succ, i64_w, i32_w]
          rfl
        refine pure_ (i := 10) (N := some 80) (v := ?_) (a' := ?_) #[true, true, true, true, true, true, true, true, true, true, true, false, false, false, false] rfl rfl (by kernel_rfl) (fun _ _ _ h => h) (Or.inl ⟨by rfl, ?_⟩) ?_ ?_
        rotate_left
        · intro w'
          go_simp
          with_reducible rfl
        rotate_left
        · simp only [Act.put, List.setIfInBounds_toArray, List.set_cons_zero, List.set_cons_succ, i64_w, i32_w]
          rfl
        refine pure_ (i := 11) (N := some 81) (v := ?_) (a' := ?_) #[true, true, true, true, true, true, true, true, true, true, true, true, false, false, false] rfl rfl (by kernel_rfl) (fun _ _ _ h => h) (Or.inl ⟨by rfl, ?_⟩) ?_ ?_
        rotate_left
        · intro w'
          go_simp
          with_reducible rfl
        rotate_left
        · simp only [Act.put, List.setIfInBounds_toArray, List.set_cons_zero, List.set_cons_succ, i64_w, i32_w]
          rfl
        refine one_ (i := 12) (N := some 14) #[true, true, true, true, true, true, true, true, true, true, true, true, true, false, false] rfl rfl (by kernel_rfl) (by decide) (fun K hK => ?_)
        have hgl := hHeld.1.size
        have hl := heap_alloc_new w9 (Obj.cells #[.int .i64 0, .int .i64 0, .int .i64 0, .int .i64 0, .int .i64 0, .int .i64 0, .slice none 0 0, .slice none 0 0] 27)
        have hG := And.intro hG.1 (And.intro (Kd.F_alloc (Kd.F_mono (ok' := fun k => k ≠ w9.heap.size) hG.2.1 (fun k hk => Nat.ne_of_lt hk)) (Obj.cells #[.int .i64 0, .int .i64 0, .int .i64 0, .int .i64 0, .int .i64 0, .int .i64 0, .slice none 0 0, .slice none 0 0] 27)) (And.intro hG.2.2.1 (Kd.F_alloc (Kd.F_mono (ok' := fun k => k ≠ w9.heap.size) hG.2.2.2 (fun k hk => Nat.ne_of_lt hk)) (Obj.cells #[.int .i64 0, .int .i64 0, .int .i64 0, .int .i64 0, .int .i64 0, .int .i64 0, .slice none 0 0, .slice none 0 0] 27))))
        refine value_ (w1 := ?_) (v := ?_) (by rfl) rfl ?_ ?_
        rotate_left 2
        · go_simp
          constructor
          · rfl
          · rfl
        refine hK.out _ _ ⟨below_step hHeld.1 (below_alloc (Below.refl _ _) _), pw_cell_below (below_alloc (Below.refl _ _) _) hHeld.2.1, pw_cell_below (below_alloc (Below.refl _ _) _) hHeld.2.2.1, pw_cell_below (below_alloc (Below.refl _ _) _) hHeld.2.2.2.1, pw_cell_below (below_alloc (Below.refl _ _) _) hHeld.2.2.2.2.1, pw_cell_below (below_alloc (Below.refl _ _) _) hHeld.2.2.2.2.2.1, pw_cell_below (below_alloc (Below.refl _ _) _) hHeld.2.2.2.2.2.2.1, pw_cell_below (below_alloc (Below.refl _ _) _) hHeld.2.2.2.2.2.2.2.1, pw_cell_below (below_alloc (Below.refl _ _) _) hHeld.2.2.2.2.2.2.2.2.1, pw_cell_below (below_alloc (Below.refl _ _) _) hHeld.2.2.2.2.2.2.2.2.2.1, pw_cell_below (below_alloc (Below.refl _ _) _) hHeld.2.2.2.2.2.2.2.2.2.2.1, pw_cell_below (below_alloc (Below.refl _ _) _) hHeld.2.2.2.2.2.2.2.2.2.2.2.1, pw_cell_below (below_alloc (Below.refl _ _) _) hHeld.2.2.2.2.2.2.2.2.2.2.2.2⟩ (fun hHeld => ?_)
        clear hK K
        refine norm_ (a' := ?_) ?_ ?_
        rotate_left
        · show Act.put _ (some 14) _ = _
          simp only [Act.put, List.setIfInBounds_toArray, List.set_cons_zero, List.set_cons_succ, i64_w, i32_w]
          rfl
        exact norm_ (by simp only [putAll, Act.put, List.setIfInBounds_toArray, List.set_cons_zero, List.set_cons_succ]) (hCont (⟨B6, e6⟩, ⟨B7, e7⟩, w9.heap.size) _ ⟨hHeld, hG, hl, hgl⟩)
      · skip
        have hgl := hHeld.1.size
        have hl := heap_alloc_new w16 (Obj.cells #[.int .i64 0, .int .i64 0, .int .i64 0, .int .i64 0, .int .i64 0, .int .i64 0, .slice none 0 0, .slice none 0 0] 27)
        refine value_ (w1 := ?_) (v := ?_) (by rfl) rfl ?_ ?_
        rotate_left 2
        · go_simp
          constructor
          · rfl
          · rfl
        refine hK.out _ _ ⟨below_step hHeld.1 (below_alloc (Below.refl _ _) _), pw_cell_below (below_alloc (Below.refl _ _) _) hHeld.2.1, pw_cell_below (below_alloc (Below.refl _ _) _) hHeld.2.2.1, pw_cell_below (below_alloc (Below.refl _ _) _) hHeld.2.2.2.1, pw_cell_below (below_alloc (Below.refl _ _) _) hHeld.2.2.2.2.1, pw_cell_below (below_alloc (Below.refl _ _) _) hHeld.2.2.2.2.2.1, pw_cell_below (below_alloc (Below.refl _ _) _) hHeld.2.2.2.2.2.2.1, pw_cell_below (below_alloc (Below.refl _ _) _) hHeld.2.2.2.2.2.2.2.1, pw_cell_below (below_alloc (Below.refl _ _) _) hHeld.2.2.2.2.2.2.2.2.1, pw_cell_below (below_alloc (Below.refl _ _) _) hHeld.2.2.2.2.2.2.2.2.2.1, pw_cell_below (below_alloc (Below.refl _ _) _) hHeld.2.2.2.2.2.2.2.2.2.2.1, pw_cell_below (below_alloc (Below.refl _ _) _) hHeld.2.2.2.2.2.2.2.2.2.2.2.1, pw_cell_below (below_alloc (Below.refl _ _) _) hHeld.2.2.2.2.2.2.2.2.2.2.2.2⟩ (fun hHeld => ?_)
        clear hK K
        refine norm_ (a' := ?_) ?_ ?_
        rotate_left
        · show Act.put _ (some 14) _ = _
          simp only [Act.put, List.setIfInBounds_toArray, List.set_cons_zero, List.set_cons_succ, i64_w, i32_w]
          rfl
        refine one_ (i := 8) (N := some 79) #[true, true, true, true, true, true, true, true, true, false, false, false, true, false, false] rfl rfl (by kernel_rfl) (by decide) (fun K hK => ?_)
        refine goes_ Try.func16 (by kernel_rfl) rfl #[.agg #[.int .i64 fm.f0, .int .i64 fm.f1, .int .i64 fm.f2, .int .i64 fm.f3, .int .i64 fm.f4.f0, .int .i64 fm.f4.f1, .slice A6 fm.f5.length c6, .slice A7 fm.f6.length c7], .agg #[.int .i64 a2_0, .int .i64 a2_1, .slice A2_2 l2_2.length c2_2, .slice A2_3 l2_3.length c2_3], .slice A3 l3.length c3] (by rfl) rfl rfl (by simp only [List.map_toArray, List.map_cons, List.map_nil]; rfl) ?_
        with_reducible refine (leave_Frame.calls (l2_2.length + 3) fm.f0 fm.f1 fm.f2 fm.f3 fm.f4.f0 fm.f4.f1 A6 c6 fm.f5 A7 c7 fm.f6 a2_0 a2_1 A2_2 c2_2 l2_2 A2_3 c2_3 l2_3 A3 c3 l3 fn.f0 fn.f1 fn.f2 fn.f3 fn.f4.f0 fn.f4.f1 fn.f5 fn.f6 ef _ (Kd.C_below HF67.out.1 hHeld.1) HC67.out.1 (Kd.C_below HF67.out.2 hHeld.1) HC67.out.2 (Kd.C_below HX2.out.1 (below_step HB3.out hHeld.1)) HX2.out.2 (Kd.C_below HX3.out.1 (below_step HB3.out hHeld.1)) HX3.out.2 (Kd.C_below HV3.out.1 (below_step HB3.out hHeld.1)) HV3.out.2 HFC.out).mono ?_
        rintro e w9 ⟨v6, v7, rfl, hR6, hR7, hb9⟩
        refine ⟨_, rfl, ?_⟩
        have hlt_ := (Array.getElem?_eq_some_iff.1 hl).1
        have hR6 := Kd.R_mono (ok' := fun k => k ≠ w16.heap.size) (Kd.R_bound hR6) (fun k hk => by have := hk.2.1; omega)
        have hR7 := Kd.R_mono (ok' := fun k => k ≠ w16.heap.size) (Kd.R_bound hR7) (fun k hk => by have := hk.2.1; omega)
        have hl := blk_below hl hb9
        obtain ⟨B6, e6, rfl⟩ := Kd.R_slice hR6
        obtain ⟨B7, e7, rfl⟩ := Kd.R_slice hR7
        have hG := And.intro (Kd.R_reads' hR6).2.1 (And.intro (Kd.R_F hR6) (And.intro (Kd.R_reads' hR7).2.1 (Kd.R_F hR7)))
        clear hR6 hR7
        refine hK.out _ _ ⟨below_step hHeld.1 hb9, pw_cell_below hb9 hHeld.2.1, pw_cell_below hb9 hHeld.2.2.1, pw_cell_below hb9 hHeld.2.2.2.1, pw_cell_below hb9 hHeld.2.2.2.2.1, pw_cell_below hb9 hHeld.2.2.2.2.2.1, pw_cell_below hb9 hHeld.2.2.2.2.2.2.1, pw_cell_below hb9 hHeld.2.2.2.2.2.2.2.1, pw_cell_below hb9 hHeld.2.2.2.2.2.2.2.2.1, pw_cell_below hb9 hHeld.2.2.2.2.2.2.2.2.2.1, pw_cell_below hb9 hHeld.2.2.2.2.2.2.2.2.2.2.1, pw_cell_below hb9 hHeld.2.2.2.2.2.2.2.2.2.2.2.1, pw_cell_below hb9 hHeld.2.2.2.2.2.2.2.2.2.2.2.2⟩ (fun hHeld => ?_)
        clear hK K
        refine norm_ (a' := ?_) ?_ ?_
        rotate_left
        · show Act.put _ (some 79) _ = _
          simp only [Act.put, List.setIfInBounds_toArray, List.set_cons_zero, List.set_cons_succ, i64_w, i32_w]
          rfl
        refine pure_ (i := 9) (N := some 70) (v := ?_) (a' := ?_) #[true, true, true, true, true, true, true, true, true, true, false, false, true, false, false] rfl rfl (by kernel_rfl) (fun _ _ _ h => h) (Or.inl ⟨by rfl, ?_⟩) ?_ ?_
        rotate_left
        · intro w'
          go_simp
          with_reducible rfl
        rotate_left
        · simp only [Act.put, List.setIfInBounds_toArray, List.set_cons_zero, List.set_cons_succ, i64_w, i32_w]
          rfl
        refine pure_ (i := 10) (N := some 80) (v := ?_) (a' := ?_) #[true, true, true, true, true, true, true, true, true, true, true, false, true, false, false] rfl rfl (by kernel_rfl) (fun _ _ _ h => h) (Or.inl ⟨by rfl, ?_⟩) ?_ ?_
        rotate_left
        · intro w'
          go_simp
          with_reducible rfl
        rotate_left
        · simp only [Act.put, List.setIfInBounds_toArray, List.set_cons_zero, List.set_cons_succ, i64_w, i32_w]
          rfl
        refine pure_ (i := 11) (N := some 81) (v := ?_) (a' := ?_) #[true, true, true, true, true, true, true, true, true, true, true, true, true, false, false] rfl rfl (by kernel_rfl) (fun _ _ _ h => h) (Or.inl ⟨by rfl, ?_⟩) ?_ ?_
        rotate_left
        · intro w'
          go_simp
          with_reducible rfl
        rotate_left
        · simp only [Act.put, List.setIfInBounds_toArray, List.set_cons_zero, List.set_cons_succ, i64_w, i32_w]
          rfl
        exact norm_ (by simp only [putAll, Act.put, List.setIfInBounds_toArray, List.set_cons_zero, List.set_cons_succ]) (hCont (⟨B6, e6⟩, ⟨B7, e7⟩, w16.heap.size) _ ⟨hHeld, hG, hl, hgl⟩)
    rintro ⟨⟨B6, e6⟩, ⟨B7, e7⟩, g2⟩ w7 ⟨hS_, hG, hl, hgl⟩
    simp only at hG hl hgl
    have hHeld := hS_
    refine norm_ (a' := ?_) ?_ ?_
    rotate_left
    · simp only [putAll, Act.put, List.setIfInBounds_toArray, List.set_cons_zero, List.set_cons_succ]
      rfl
    refine last_ (i := 13) (N := none) #[true, true, true, true, true, true, true, true, true, true, true, true, true, true, false] rfl rfl (by kernel_rfl) (by decide) (fun K hK => ?_)
    have hf0 : w7.frozen? ⟨g2, 0, none⟩ = false := blk_frozen hl 0
    have hf1 : w7.frozen? ⟨g2, 1, none⟩ = false := blk_frozen hl 1
    have hf2 : w7.frozen? ⟨g2, 2, none⟩ = false := blk_frozen hl 2
    have hf3 : w7.frozen? ⟨g2, 3, none⟩ = false := blk_frozen hl 3
    have hf4 : w7.frozen? ⟨g2, 4, none⟩ = false := blk_frozen hl 4
    have hf5 : w7.frozen? ⟨g2, 5, none⟩ = false := blk_frozen hl 5
    have hf6 : w7.frozen? ⟨g2, 6, none⟩ = false := blk_frozen hl 6
    have hf7 : w7.frozen? ⟨g2, 7, none⟩ = false := blk_frozen hl 7
    have hc0 : w7.cell? ⟨g2, 0, none⟩ = some (.int .i64 0) := (blk_cell hl 0).trans rfl
    have hc1 : w7.cell? ⟨g2, 1, none⟩ = some (.int .i64 0) := (blk_cell hl 1).trans rfl
    have hc2 : w7.cell? ⟨g2, 2, none⟩ = some (.int .i64 0) := (blk_cell hl 2).trans rfl
    have hc3 : w7.cell? ⟨g2, 3, none⟩ = some (.int .i64 0) := (blk_cell hl 3).trans rfl
    have hc4 : w7.cell? ⟨g2, 4, none⟩ = some (.int .i64 0) := (blk_cell hl 4).trans rfl
    have hc5 : w7.cell? ⟨g2, 5, none⟩ = some (.int .i64 0) := (blk_cell hl 5).trans rfl
    have hc6 : w7.cell? ⟨g2, 6, none⟩ = some (.slice none 0 0) := (blk_cell hl 6).trans rfl
    have hc7 : w7.cell? ⟨g2, 7, none⟩ = some (.slice none 0 0) := (blk_cell hl 7).trans rfl
    refine skip_ (w1 := ?_) (by rfl) rfl ?_ ?_
    rotate_left
    · go_simp
      rfl
    refine hK.out _ _ ?_
    clear hK K
    refine pure_ (i := 14) (N := some 15) (v := ?_) (a' := ?_) #[true, true, true, true, true, true, true, true, true, true, true, true, true, true, true] rfl rfl (by kernel_rfl) (fun _ _ _ h => h) (Or.inl ⟨by rfl, ?_⟩) ?_ ?_
    rotate_left
    · intro w'
      go_simp
      with_reducible rfl
    rotate_left
    · simp only [Act.put, List.setIfInBounds_toArray, List.set_cons_zero, List.set_cons_succ, i64_w, i32_w]
      rfl
    refine done_ (by kernel_rfl) ?_
    generalize hwz : World.setCell (World.setCell (World.setCell (World.setCell (World.setCell (World.setCell (World.setCell (World.setCell w7 _ _) _ _) _ _) _ _) _ _) _ _) _ _) _ _ = wz
    have HNB : Aside0 (wz.heap[g2]? = some (.cells #[.int .i64 fn.f0, .int .i64 fn.f1, .int .i64 fn.f2, .int .i64 fn.f3, .int .i64 fn.f4.f0, .int .i64 fn.f4.f1, .slice B6 fn.f5.length e6, .slice B7 fn.f6.length e7] 27 (0, 0))) := ⟨by
      rw [← hwz]
      refine blk_put (cs := #[.int .i64 fn.f0, .int .i64 fn.f1, .int .i64 fn.f2, .int .i64 fn.f3, .int .i64 fn.f4.f0, .int .i64 fn.f4.f1, .slice B6 fn.f5.length e6, .slice none 0 0]) ?_ 7 _ rfl
      refine blk_put (cs := #[.int .i64 fn.f0, .int .i64 fn.f1, .int .i64 fn.f2, .int .i64 fn.f3, .int .i64 fn.f4.f0, .int .i64 fn.f4.f1, .slice none 0 0, .slice none 0 0]) ?_ 6 _ rfl
      refine blk_put (cs := #[.int .i64 fn.f0, .int .i64 fn.f1, .int .i64 fn.f2, .int .i64 fn.f3, .int .i64 fn.f4.f0, .int .i64 0, .slice none 0 0, .slice none 0 0]) ?_ 5 _ rfl
      refine blk_put (cs := #[.int .i64 fn.f0, .int .i64 fn.f1, .int .i64 fn.f2, .int .i64 fn.f3, .int .i64 0, .int .i64 0, .slice none 0 0, .slice none 0 0]) ?_ 4 _ rfl
      refine blk_put (cs := #[.int .i64 fn.f0, .int .i64 fn.f1, .int .i64 fn.f2, .int .i64 0, .int .i64 0, .int .i64 0, .slice none 0 0, .slice none 0 0]) ?_ 3 _ rfl
      refine blk_put (cs := #[.int .i64 fn.f0, .int .i64 fn.f1, .int .i64 0, .int .i64 0, .int .i64 0, .int .i64 0, .slice none 0 0, .slice none 0 0]) ?_ 2 _ rfl
      refine blk_put (cs := #[.int .i64 fn.f0, .int .i64 0, .int .i64 0, .int .i64 0, .int .i64 0, .int .i64 0, .slice none 0 0, .slice none 0 0]) ?_ 1 _ rfl
      refine blk_put (cs := #[.int .i64 0, .int .i64 0, .int .i64 0, .int .i64 0, .int .i64 0, .int .i64 0, .slice none 0 0, .slice none 0 0]) ?_ 0 _ rfl
      exact hl⟩
    have hky : ∀ k, k ≠ g2 → wz.heap[k]? = w7.heap[k]? := fun k hk => by
      rw [← hwz]
      exact ((((((((heap_setCell_other _ _ k _ hk).trans (heap_setCell_other _ _ k _ hk)).trans (heap_setCell_other _ _ k _ hk)).trans (heap_setCell_other _ _ k _ hk)).trans (heap_setCell_other _ _ k _ hk)).trans (heap_setCell_other _ _ k _ hk)).trans (heap_setCell_other _ _ k _ hk)).trans (heap_setCell_other w7 _ k _ hk))
    have h3z : Below w3.heap.size w3 wz := by
      rw [← hwz]
      exact ((((((((hS_.1.setCell (p := ⟨g2, 0, none⟩) hgl _).setCell (p := ⟨g2, 1, none⟩) hgl _).setCell (p := ⟨g2, 2, none⟩) hgl _).setCell (p := ⟨g2, 3, none⟩) hgl _).setCell (p := ⟨g2, 4, none⟩) hgl _).setCell (p := ⟨g2, 5, none⟩) hgl _).setCell (p := ⟨g2, 6, none⟩) hgl _).setCell (p := ⟨g2, 7, none⟩) hgl _)
    have HG := Aside0.mk (And.intro (And.intro hG.1 hG.2.2.1) (And.intro (Kd.F_step hG.2.1 (fun k hk _ => hky k hk)) (Kd.F_step hG.2.2.2 (fun k hk _ => hky k hk))))
    have HBz := Aside0.mk (below_step HB3.out h3z)
    have HSBz := Aside0.mk (blk_below HSB3.out h3z)
    have HXBz := Aside0.mk (blk_below HXB3.out h3z)
    have HYBz := Aside0.mk (blk_below HYB3.out h3z)
    have HLO := Aside0.mk (HLO3.out.step (fun k _ hlt => h3z.block k hlt))
    have HCLz := Aside0.mk (And.intro HCL.out.1 (Kd.F_below HCL.out.2 h3z))
    have HF0z := Aside0.mk (Kd.C_below HF03.out h3z)
    have HG2 := Aside0.mk (And.intro hgl HLY.out)
    clear hG hS_ hl hgl hky h3z hwz HB3 HSB3 HXB3 HYB3 HLO3 HCL HF03 HLY q0 q1 q2 q3 q4 q5 q6 q7 x0 x1 x2 x3 hf0 hf1 hf2 hf3 hf4 hf5 hf6 hf7 hc0 hc1 hc2 hc3 hc4 hc5 hc6 hc7
    have hlo := HLO.out
    have HWM := Aside0.mk hwm
    clear hwm
    unfold LO at hlo
    rw [HFL.out, ← HFN.out.1, ← HFN.out.2] at hlo
    clear HLO
    have hw0 : wrap64 0 = 0 := by unfold wrap64; omega
    generalize hec : (cellsL l3 l2_3 l0_0).2 = ec at hlo ⊢
    generalize hcl : (cellsL l3 l2_3 l0_0).1 = cl at hlo HCLz ⊢
    have HEC := Aside0.mk (And.intro hec hcl)
    clear hec hcl
    rcases hlo with ⟨h1, _⟩ | ⟨_, hn, he_, hv⟩ | ⟨_, hc0_, hn, he_, hv⟩ | ⟨_, hc0_, he0, he_, hv⟩
    · exact absurd h1 HBAD.out
    · subst he_
      have hec0 : (err == 0) = false := beq_eq_false_iff_ne.mpr hn
      have hec1 : (err != 0) = true := bne_iff_ne.mpr hn
      have hec2 : (err == err) = true := beq_self_eq_true _
      clear hn
      obtain ⟨D0, r0, D1, r1, D2, r2, D3, r3, D4, r4, D5, r5, ev, _⟩ := hv
      simp only [Value.agg.injEq, Array.mk.injEq, List.cons.injEq, Value.slice.injEq, Value.int.injEq, true_and, and_true, List.length_nil] at ev
      obtain ⟨⟨rfl, rfl, rfl⟩, ⟨rfl, rfl, rfl⟩, ⟨rfl, rfl, rfl⟩, ⟨rfl, rfl, rfl⟩, ⟨rfl, rfl, rfl⟩, ⟨rfl, rfl, rfl⟩, rfl, rfl⟩ := ev
      go_wp2_with fail
      refine (backstitchkeep3_leftBy.calls 4 true _ (leftBy_f 4 (Nat.le_refl _))).mono ?_
      rintro e w8 ⟨rfl, hb8⟩
      have y0 := (blk_cell (blk_below HYBz.out hb8) 0).trans rfl
      have y3 := (blk_cell (blk_below HYBz.out hb8) 3).trans rfl
      have HB8 := Aside0.mk (below_step HBz.out hb8)
      clear hb8
      go_wp2_with fail
      go_ret
      exact ⟨rfl, HB8.out⟩
    · subst he_
      subst hc0_
      have hef0 : (err == 0) = false := beq_eq_false_iff_ne.mpr hn
      have hef1 : (err != 0) = true := bne_iff_ne.mpr hn
      have hef2 : (err == err) = true := beq_self_eq_true _
      clear hn
      obtain ⟨D0, r0, D1, r1, D2, r2, D3, r3, D4, r4, D5, r5, ev, _⟩ := hv
      simp only [Value.agg.injEq, Array.mk.injEq, List.cons.injEq, Value.slice.injEq, Value.int.injEq, true_and, and_true, List.length_nil] at ev
      obtain ⟨⟨rfl, rfl, rfl⟩, ⟨rfl, rfl, rfl⟩, ⟨rfl, rfl, rfl⟩, ⟨rfl, rfl, rfl⟩, ⟨rfl, rfl, rfl⟩, ⟨rfl, rfl, rfl⟩, rfl, rfl⟩ := ev
      go_wp2_with fail
      refine (backstitchkeep3_leftBy.calls 4 true _ (leftBy_f 4 (Nat.le_refl _))).mono ?_
      rintro e w8 ⟨rfl, hb8⟩
      have y0 := (blk_cell (blk_below HYBz.out hb8) 0).trans rfl
      have y3 := (blk_cell (blk_below HYBz.out hb8) 3).trans rfl
      have HB8 := Aside0.mk (below_step HBz.out hb8)
      clear hb8
      go_wp2_with fail
      go_ret
      exact ⟨rfl, HB8.out⟩
    · subst he_
      subst hc0_
      subst he0
      obtain ⟨D0, r0, D1, r1, D2, r2, D3, r3, D4, r4, D5, r5, ev, y0, yc0, y1, yc1, y2, yc2, y3, yc3, y4, yc4, y5, yc5⟩ := hv
      simp only [Value.agg.injEq, Array.mk.injEq, List.cons.injEq, Value.slice.injEq, Value.int.injEq, true_and, and_true] at ev
      obtain ⟨⟨rfl, rfl, rfl⟩, ⟨rfl, rfl, rfl⟩, ⟨rfl, rfl, rfl⟩, ⟨rfl, rfl, rfl⟩, ⟨rfl, rfl, rfl⟩, ⟨rfl, rfl, rfl⟩, rfl, rfl⟩ := ev
      have hnl : (newTh l0_3 a1.toNat ((l0_3.getD a1.toNat z62).f0.length - 1) fn).length = l0_3.length := by unfold newTh; simp
      obtain ⟨TN, hTN⟩ : ∃ TN, TN = (newTh l0_3 a1.toNat ((l0_3.getD a1.toNat z62).f0.length - 1) fn) := ⟨_, rfl⟩
      rw [← hTN] at y3 yc3 hnl HYBz ⊢
      have p2 : a1 < (TN.length : Int) := by rw [hnl]; exact p1
      obtain ⟨ad4, F1, g1, eA4, hx4, _, _, _, _, hg1, hF1⟩ := at_T62 (Kd.F_now y3) a1 p0 p2
      subst eA4
      have hft : (rd_T62 TN a1).f0 = fs.set m fn := by
        have h_ := out_fs (l3 := l0_3) (t := a1.toNat) (m := m) (by omega) (by show (rd_T62 l0_3 a1).f0.length = _; rw [← HFS.out]; exact HM.out) fn
        rw [← hTN] at h_
        rw [HFS.out]
        exact h_
      rw [hft] at hx4
      have hneT : ((TN.length : Int) != (l0_3.length : Int)) = false := by rw [hnl]; exact bne_self_eq_false _
      have hneF : (((fs.set m fn).length : Int) != (fs.length : Int)) = false := by rw [List.length_set]; exact bne_self_eq_false _
      have hneC : ((cl.length : Int) != (cl.length : Int)) = false := bne_self_eq_false _
      have hne0 : ((0 : Int) != 0) = false := by decide
      have s3 := (blk_cell HSBz.out 3).trans rfl
      have t3 := (blk_cell HYBz.out 3).trans rfl
      have t0 := (blk_cell HYBz.out 0).trans rfl
      have HNL := Aside0.mk (And.intro hTN hnl)
      clear hft hTN hnl hg1 hF1
      have HY0 := Aside0.mk y0
      have HY1 := Aside0.mk y1
      have HY2 := Aside0.mk y2
      have HY3 := Aside0.mk y3
      have HY4 := Aside0.mk y4
      have HY5 := Aside0.mk y5
      have HYC := Aside0.mk (And.intro yc1 (And.intro yc2 (And.intro yc4 yc5)))
      clear y0 y1 y2 y3 y4 y5 yc0 yc1 yc2 yc3 yc4 yc5
      go_wp2_with fail
      have HSMC : Aside0 (∀ c ∈ cl, Sm c) := ⟨by rw [← HEC.out.2]; exact cells_sm l3 l2_3 l0_0 HOK.out.2.mm HOK.out.1.cm⟩
      have HCLL : Aside0 (cl.length ≤ 1048576) := ⟨by
        have h_ := cells_len l3 l2_3 l0_0
        rw [HEC.out.2] at h_
        exact Nat.le_trans h_ HOK.out.1.cs⟩
      clear s3 t3 t0 hx4
      go_loopg [136] cl.length (fun kq v136 W => ∃ i : Nat, v136 = .int .i64 (i : Int) ∧ Aside0 (i ≤ cl.length ∧ kq = cl.length - i) ∧ Aside0 (Below wz.heap.size wz W))
      case atStart => exact ⟨0, rfl, ⟨Nat.zero_le _, by omega⟩, ⟨Below.refl _ _⟩⟩
      case round =>
        obtain ⟨i, rfl, HIQ, HB⟩ := hrel
        by_cases hlt : i < cl.length
        · have hi0 : (0 : Int) ≤ (i : Int) := by omega
          have hi1 : (i : Int) < (cl.length : Int) := by omega
          obtain ⟨ad8, P2, q2, P3, q3, e8, x0, x1, x2, x3, xc2, xK2, xc3, xK3⟩ := at_T50 (Kd.F_now (Kd.F_below HCLz.out.2 HB.out)) (i : Int) (by omega) (by omega)
          obtain ⟨ad9, Q2, q4, Q3, q5, e9, z0, z1, z2, z3, zc2, zK2, zc3, zK3⟩ := at_T50 (Kd.F_now (Kd.F_below HY0.out HB.out)) (i : Int) (by omega) (by omega)
          subst e8
          subst e9
          have hrd : rd_T50 cl (i : Int) = cl[i] := by unfold rd_T50; rw [Int.toNat_natCast, List.getD_eq_getElem?_getD, List.getElem?_eq_getElem hlt]; rfl
          obtain ⟨KS, hKS⟩ := same_cell cl[i] (HSMC.out _ (List.getElem_mem hlt))
          rw [hrd] at x0 x1 x2 x3 xc2 xK2 xc3 xK3 z0 z1 z2 z3 zc2 zK2 zc3 zK3
          rw [Int.toNat_natCast] at x0 x1 x2 x3 z0 z1 z2 z3
          have hdec : decide ((i : Int) < (cl.length : Int)) = true := decide_eq_true hi1
          have hdec2 : decide (i < cl.length) = true := decide_eq_true hlt
          have HLT := Aside0.mk hlt
          have HW64 : Aside0 (wrap64 ((i : Int) + 1) = ((i + 1 : Nat) : Int)) := ⟨by have := HCLL.out; unfold wrap64; omega⟩
          have HXK := Aside0.mk (And.intro xK2 xK3)
          have HZK := Aside0.mk (And.intro zK2 zK3)
          have HKS := Aside0.mk (hKS KS (Nat.le_refl _))
          generalize cl[i] = ci at x0 x1 x2 x3 xc2 xc3 z0 z1 z2 z3 zc2 zc3 HXK HZK HKS
          clear hKS xK2 xK3 zK2 zK3 hrd
          have t1 : wr.cell? ⟨gl, 0, none⟩ = some (.slice (some ad9) cl.length d0) := (blk_cell (blk_below HYBz.out HB.out) 0).trans rfl
          go_wp2_with fail
          refine start_ (n := 11) (S := fun w' => Below wr.heap.size wr w' ∧ w'.cell? ⟨gl, 0, none⟩ = some (.slice (some ad9) cl.length d0) ∧ w'.cell? (ad8.add (i * 4)) = some (.int .i64 ci.f0) ∧ w'.cell? ⟨(ad8.add (i * 4)).block, (ad8.add (i * 4)).off + 1, none⟩ = some (.int .i64 ci.f1) ∧ w'.cell? ⟨(ad8.add (i * 4)).block, (ad8.add (i * 4)).off + 2, none⟩ = some (.slice P2 ci.f2.length q2) ∧ w'.cell? ⟨(ad8.add (i * 4)).block, (ad8.add (i * 4)).off + 3, none⟩ = some (.slice P3 ci.f3.length q3) ∧ w'.cell? (ad9.add (i * 4)) = some (.int .i64 ci.f0) ∧ w'.cell? ⟨(ad9.add (i * 4)).block, (ad9.add (i * 4)).off + 1, none⟩ = some (.int .i64 ci.f1) ∧ w'.cell? ⟨(ad9.add (i * 4)).block, (ad9.add (i * 4)).off + 2, none⟩ = some (.slice Q2 ci.f2.length q4) ∧ w'.cell? ⟨(ad9.add (i * 4)).block, (ad9.add (i * 4)).off + 3, none⟩ = some (.slice Q3 ci.f3.length q5)) (ds := []) #[false, false, false, false, false, false, false, false, false, false, false] (by kernel_rfl) rfl rfl ⟨(below_drew (Below.refl _ _)), t1, x0, x1, x2, x3, z0, z1, z2, z3⟩ (fun hHeld => ?_)
          refine pure_ (i := 0) (N := some 139) (v := ?_) (a' := ?_) #[true, false, false, false, false, false, false, false, false, false, false] rfl rfl (by kernel_rfl) (fun _ _ _ h => h) (Or.inl ⟨by rfl, ?_⟩) ?_ ?_
          rotate_left
          · intro w'
            go_simp
            with_reducible rfl
          rotate_left
          · simp only [Act.put, List.setIfInBounds_toArray, List.set_cons_zero, List.set_cons_succ, i64_w, i32_w]
            rfl
          refine pure_ (i := 1) (N := some 140) (v := ?_) (a' := ?_) #[true, true, false, false, false, false, false, false, false, false, false] rfl rfl (by kernel_rfl) (fun _ _ _ h => h) (Or.inl ⟨by rfl, ?_⟩) ?_ ?_
          rotate_left
          · intro w'
            go_simp
            with_reducible rfl
          rotate_left
          · simp only [Act.put, List.setIfInBounds_toArray, List.set_cons_zero, List.set_cons_succ, i64_w, i32_w]
            rfl
          refine pure_ (i := 2) (N := some 141) (v := ?_) (a' := ?_) #[true, true, true, false, false, false, false, false, false, false, false] rfl rfl (by kernel_rfl) (fun _ _ _ h => h) (Or.inl ⟨by rfl, ?_⟩) ?_ ?_
          rotate_left
          · intro w'
            go_simp
            with_reducible rfl
          rotate_left
          · simp only [Act.put, List.setIfInBounds_toArray, List.set_cons_zero, List.set_cons_succ, i64_w, i32_w]
            rfl
          refine pure_ (i := 4) (N := some 143) (v := ?_) (a' := ?_) #[true, true, true, false, true, false, false, false, false, false, false] rfl rfl (by kernel_rfl) (fun _ _ _ h => h) (Or.inl ⟨by rfl, ?_⟩) ?_ ?_
          rotate_left
          · intro w'
            go_simp
            with_reducible rfl
          rotate_left
          · simp only [Act.put, List.setIfInBounds_toArray, List.set_cons_zero, List.set_cons_succ, i64_w, i32_w]
            rfl
          refine pure_ (i := 6) (N := some 145) (v := ?_) (a' := ?_) #[true, true, true, false, true, false, true, false, false, false, false] rfl rfl (by kernel_rfl) (fun _ _ _ h => h) (Or.inl ⟨by rfl, ?_⟩) ?_ ?_
          rotate_left
          · intro w'
            go_simp
            with_reducible rfl
          rotate_left
          · simp only [Act.put, List.setIfInBounds_toArray, List.set_cons_zero, List.set_cons_succ, i64_w, i32_w]
            rfl
          refine take_ (i := 3) (N := some 142) (v := ?_) (a' := ?_) #[true, true, true, true, true, false, true, false, false, false, false] rfl rfl (by kernel_rfl) (fun _ _ _ h => h) (Or.inl ⟨by rfl, ?_⟩) hHeld ?_ ?_
          rotate_left
          · rintro w' ⟨s0, s1, s2, s3, s4, s5, s6, s7, s8, s9⟩
            go_simp
            with_reducible rfl
          rotate_left
          · simp only [Act.put, List.setIfInBounds_toArray, List.set_cons_zero, List.set_cons_succ, i64_w, i32_w]
            rfl
          refine take_ (i := 5) (N := some 144) (v := ?_) (a' := ?_) #[true, true, true, true, true, true, true, false, false, false, false] rfl rfl (by kernel_rfl) (fun _ _ _ h => h) (Or.inl ⟨by rfl, ?_⟩) hHeld ?_ ?_
          rotate_left
          · rintro w' ⟨s0, s1, s2, s3, s4, s5, s6, s7, s8, s9⟩
            go_simp
            with_reducible rfl
          rotate_left
          · simp only [Act.put, List.setIfInBounds_toArray, List.set_cons_zero, List.set_cons_succ, i64_w, i32_w]
            rfl
          refine pure_ (i := 7) (N := some 146) (v := ?_) (a' := ?_) #[true, true, true, true, true, true, true, true, false, false, false] rfl rfl (by kernel_rfl) (fun _ _ _ h => h) (Or.inl ⟨by rfl, ?_⟩) ?_ ?_
          rotate_left
          · intro w'
            go_simp
            with_reducible rfl
          rotate_left
          · simp only [Act.put, List.setIfInBounds_toArray, List.set_cons_zero, List.set_cons_succ, i64_w, i32_w]
            rfl
          refine take_ (i := 8) (N := some 147) (v := ?_) (a' := ?_) #[true, true, true, true, true, true, true, true, true, false, false] rfl rfl (by kernel_rfl) (fun _ _ _ h => h) (Or.inl ⟨by rfl, ?_⟩) hHeld ?_ ?_
          rotate_left
          · rintro w' ⟨s0, s1, s2, s3, s4, s5, s6, s7, s8, s9⟩
            go_simp
            with_reducible rfl
          rotate_left
          · simp only [Act.put, List.setIfInBounds_toArray, List.set_cons_zero, List.set_cons_succ, i64_w, i32_w]
            rfl
          refine one_ (i := 9) (N := some 148) #[true, true, true, true, true, true, true, true, true, true, false] rfl rfl (by kernel_rfl) (by decide) (fun K hK => ?_)
          refine goes_ Try.func19 (by kernel_rfl) rfl #[.agg #[.int .i64 ci.f0, .int .i64 ci.f1, .slice P2 ci.f2.length q2, .slice P3 ci.f3.length q3], .agg #[.int .i64 ci.f0, .int .i64 ci.f1, .slice Q2 ci.f2.length q4, .slice Q3 ci.f3.length q5]] (by rfl) rfl rfl (by simp only [List.map_toArray, List.map_cons, List.map_nil]; rfl) ?_
          with_reducible refine (backstitchkeep3_sameCell.calls KS ci.f0 ci.f1 P2 q2 ci.f2 P3 q3 ci.f3 ci.f0 ci.f1 Q2 q4 ci.f2 Q3 q5 ci.f3 true _ (Kd.C_below HXK.out.1 hHeld.1) xc2 (Kd.C_below HXK.out.2 hHeld.1) xc3 (Kd.C_below HZK.out.1 hHeld.1) zc2 (Kd.C_below HZK.out.2 hHeld.1) zc3 HKS.out).mono ?_
          rintro e w8 ⟨rfl, hb8⟩
          refine ⟨_, rfl, ?_⟩
          refine hK.out _ _ ⟨below_step hHeld.1 hb8, pw_cell_below hb8 hHeld.2.1, pw_cell_below hb8 hHeld.2.2.1, pw_cell_below hb8 hHeld.2.2.2.1, pw_cell_below hb8 hHeld.2.2.2.2.1, pw_cell_below hb8 hHeld.2.2.2.2.2.1, pw_cell_below hb8 hHeld.2.2.2.2.2.2.1, pw_cell_below hb8 hHeld.2.2.2.2.2.2.2.1, pw_cell_below hb8 hHeld.2.2.2.2.2.2.2.2.1, pw_cell_below hb8 hHeld.2.2.2.2.2.2.2.2.2⟩ (fun hHeld => ?_)
          clear hK K
          refine norm_ (a' := ?_) ?_ ?_
          rotate_left
          · show Act.put _ (some 148) _ = _
            simp only [Act.put, List.setIfInBounds_toArray, List.set_cons_zero, List.set_cons_succ, i64_w, i32_w]
            rfl
          refine pure_ (i := 10) (N := some 149) (v := ?_) (a' := ?_) #[true, true, true, true, true, true, true, true, true, true, true] rfl rfl (by kernel_rfl) (fun _ _ _ h => h) (Or.inl ⟨by rfl, ?_⟩) ?_ ?_
          rotate_left
          · intro w'
            go_simp
            with_reducible rfl
          rotate_left
          · simp only [Act.put, List.setIfInBounds_toArray, List.set_cons_zero, List.set_cons_succ, i64_w, i32_w]
            rfl
          refine done_ (by kernel_rfl) ?_
          have HB2 := Aside0.mk (below_step HB.out hHeld.1)
          clear hHeld x0 x1 x2 x3 z0 z1 z2 z3 t1 HB
          go_wp2_with fail
          go_roundg (cl.length - (i + 1))
          case measure => have := HIQ.out; have := HLT.out; omega
          case rel => exact ⟨i + 1, by first | rfl | rw [HW64.out], ⟨by have := HLT.out; omega, rfl⟩, HB2⟩
        · have e_ : i = cl.length := by have := HIQ.out; omega
          subst e_
          have hdec : decide ((cl.length : Int) < (cl.length : Int)) = false := decide_eq_false (by omega)
          have hdec2 : decide (cl.length < cl.length) = false := decide_eq_false hlt
          have HBa := Aside0.mk (below_step HBz.out HB.out)
          have HYBa := Aside0.mk (blk_below HYBz.out HB.out)
          have HSBa := Aside0.mk (blk_below HSBz.out HB.out)
          have HXBa := Aside0.mk (blk_below HXBz.out HB.out)
          have HNBa := Aside0.mk (blk_below HNB.out HB.out)
          have HGa := Aside0.mk (And.intro HG.out.1 (And.intro (Kd.F_below HG.out.2.1 HB.out) (Kd.F_below HG.out.2.2 HB.out)))
          have HYa := Aside0.mk (And.intro (Kd.F_below HY1.out HB.out) (And.intro (Kd.F_below HY2.out HB.out) (And.intro (Kd.F_below HY4.out HB.out) (Kd.F_below HY5.out HB.out))))
          have HY3a := Aside0.mk (Kd.F_below HY3.out HB.out)
          clear hlt HIQ HB HBz HYBz HSBz HXBz HNB HG HY0 HY1 HY2 HY3 HY4 HY5 HCLz
          generalize wr = wa at HBa HYBa HSBa HXBa HNBa HGa HYa HY3a ⊢
          have s3 := (blk_cell HSBa.out 3).trans rfl
          go_wp2_with fail
          have HTL : Aside0 (l0_3.length ≤ 1048576) := ⟨HOK.out.1.th⟩
          clear s3
          go_loopg [154] l0_3.length (fun kq v154 W => ∃ i : Nat, v154 = .int .i64 (i : Int) ∧ Aside0 (i ≤ l0_3.length ∧ kq = l0_3.length - i) ∧ Aside0 (Below wa.heap.size wa W))
          case atStart => exact ⟨0, rfl, ⟨Nat.zero_le _, by omega⟩, ⟨Below.refl _ _⟩⟩
          case round =>
            obtain ⟨i, rfl, HIQ, HB⟩ := hrel
            by_cases hlt : i < l0_3.length
            · have hi0 : (0 : Int) ≤ (i : Int) := by omega
              have hi1 : (i : Int) < (l0_3.length : Int) := by omega
              have hi2 : (i : Int) < (TN.length : Int) := by rw [HNL.out.2]; exact hi1
              have hdec : decide ((i : Int) < (l0_3.length : Int)) = true := decide_eq_true hi1
              have hdec2 : decide (i < l0_3.length) = true := decide_eq_true hlt
              have HLT := Aside0.mk hlt
              have HW64 : Aside0 (wrap64 ((i : Int) + 1) = ((i + 1 : Nat) : Int)) := ⟨by have := HTL.out; unfold wrap64; omega⟩
              have hbw := below_step HBa.out HB.out
              obtain ⟨ad8, Fi, gi, e8, x0, x1, x2, x3, x4, hgi, hFi⟩ := at_T62 (Kd.F_now (Kd.F_below HR3.out hbw)) (i : Int) (by omega) (by omega)
              obtain rfl := Option.some.inj e8
              rw [Int.toNat_natCast] at x0 x1 x2 x3 x4
              obtain ⟨ti, hti⟩ : ∃ ti, ti = rd_T62 l0_3 (i : Int) := ⟨_, rfl⟩
              rw [← hti] at x0 x1 x2 x3 x4 hgi hFi
              obtain ⟨ob, hob⟩ : ∃ ob, ob = Obj.cells #[.slice Fi ti.f0.length gi, .int .i64 ti.f1, .int .i64 ti.f2, .int .i64 ti.f3.f0, .int .i64 ti.f3.f1] 62 := ⟨_, rfl⟩
              have hal := below_alloc (Below.refl wr.heap.size wr) ob
              have k0 : (wr.alloc ob).cell? ⟨wr.heap.size, 0, none⟩ = some (.slice Fi ti.f0.length gi) := by rw [hob]; exact (blk_cell (blk_new wr _) 0).trans rfl
              rw [hob] at k0
              have HB2 := Aside0.mk (below_step HB.out hal)
              have HFi := Aside0.mk (Kd.C_below hFi hal)
              have HTI := Aside0.mk hti
              clear hal hFi hti hbw e8
              go_upto_region 25 with fail
              rw [← hob]
              generalize wr.alloc ob = wv at HB2 HFi ⊢
              clear hob k0 x0 x1 x2 x3 x4 HB
              generalize wr.heap.size = b18
              have HGS : Aside0 ((rd_T62 TN (i : Int)).f0.length = ti.f0.length ∧ ((i : Int) ≠ a1 → (rd_T62 TN (i : Int)).f0 = ti.f0) ∧ ((i : Int) = a1 → ti.f0 = fs ∧ (rd_T62 TN (i : Int)).f0 = fs.set m fn)) := ⟨by
                have htt : a1.toNat < l0_3.length := by omega
                have h_ := new_fs (l3 := l0_3) (t := a1.toNat) (m := m) (by show (rd_T62 l0_3 a1).f0.length = _; rw [← HFS.out]; exact HM.out) fn htt i
                rw [← HNL.out.1] at h_
                have e1 : ti.f0 = (l0_3.getD i z62).f0 := by rw [HTI.out]; rfl
                have e2 : fs = (l0_3.getD a1.toNat z62).f0 := by rw [HFS.out]; rfl
                by_cases hA : i = a1.toNat
                · rw [if_pos hA] at h_
                  have e3 : ti.f0 = fs := by rw [e1, e2, hA]
                  have e4 : (rd_T62 TN (i : Int)).f0 = fs.set m fn := by show (TN.getD i _).f0 = _; rw [h_, ← e1, e3]
                  exact ⟨by rw [e4, List.length_set, e3], fun h => absurd (show (i : Int) = a1 by omega) h, fun _ => ⟨e3, e4⟩⟩
                · rw [if_neg hA] at h_
                  have e4 : (rd_T62 TN (i : Int)).f0 = ti.f0 := by show (TN.getD i _).f0 = _; rw [h_, e1]
                  exact ⟨by rw [e4], fun _ => e4, fun h => absurd (show i = a1.toNat by omega) hA⟩⟩
              have HTS : Aside0 (ti.f0.length ≤ 1048576 ∧ ∀ k : Nat, k < ti.f0.length → SmF (rd_T27 ti.f0 (k : Int))) := ⟨by
                have e1 : ti = l0_3[i] := by rw [HTI.out]; unfold rd_T62; rw [Int.toNat_natCast, List.getD_eq_getElem?_getD, List.getElem?_eq_getElem HLT.out]; rfl
                have h1 := HOK.out.1.tm l0_3[i] (List.getElem_mem HLT.out)
                rw [← e1] at h1
                refine ⟨h1.1, fun k hk => ?_⟩
                have e2 : rd_T27 ti.f0 (k : Int) = ti.f0[k] := by unfold rd_T27; rw [Int.toNat_natCast, List.getD_eq_getElem?_getD, List.getElem?_eq_getElem hk]; rfl
                rw [e2]
                exact h1.2 _ (List.getElem_mem hk)⟩
              go_loopg [162] ti.f0.length (fun kq v162 W => ∃ k : Nat, v162 = .int .i64 (k : Int) ∧ Aside0 (k ≤ ti.f0.length ∧ kq = ti.f0.length - k) ∧ Aside0 (Below wv.heap.size wv W))
              case atStart => exact ⟨0, rfl, ⟨Nat.zero_le _, by omega⟩, ⟨Below.refl _ _⟩⟩
              case round =>
                obtain ⟨k, rfl, HKQ, HB⟩ := hrel
                by_cases hkt : k < ti.f0.length
                · have hk0 : (0 : Int) ≤ (k : Int) := by omega
                  have hk1 : (k : Int) < (ti.f0.length : Int) := by omega
                  have hk2 : (k : Int) < ((rd_T62 TN (i : Int)).f0.length : Int) := by rw [HGS.out.1]; exact hk1
                  have hdeck : decide ((k : Int) < (ti.f0.length : Int)) = true := decide_eq_true hk1
                  have hdeck2 : decide (k < ti.f0.length) = true := decide_eq_true hkt
                  have HKT := Aside0.mk hkt
                  have HK64 : Aside0 (wrap64 ((k : Int) + 1) = ((k + 1 : Nat) : Int)) := ⟨by have := HTS.out.1; unfold wrap64; omega⟩
                  obtain ⟨ad9, E6, r6, E7, r7, e9, z0, z1, z2, z3, z4, z5, z6, z7, zc6, zK6, zc7, zK7⟩ := at_T27 (Kd.C_below HFi.out HB.out) (k : Int) (by omega) (by omega)
                  subst e9
                  rw [Int.toNat_natCast] at z0 z1 z2 z3 z4 z5 z6 z7
                  obtain ⟨fk, hfk⟩ : ∃ fk, fk = rd_T27 ti.f0 (k : Int) := ⟨_, rfl⟩
                  rw [← hfk] at z0 z1 z2 z3 z4 z5 z6 z7 zc6 zK6 zc7 zK7
                  obtain ⟨ob, hob⟩ : ∃ ob, ob = Obj.cells #[.int .i64 fk.f0, .int .i64 fk.f1, .int .i64 fk.f2, .int .i64 fk.f3, .int .i64 fk.f4.f0, .int .i64 fk.f4.f1, .slice E6 fk.f5.length r6, .slice E7 fk.f6.length r7] 27 := ⟨_, rfl⟩
                  have hal := below_alloc (Below.refl wr.heap.size wr) ob
                  have H20 : Aside0 ((wr.alloc ob).heap[wr.heap.size]? = some (.cells #[.int .i64 fk.f0, .int .i64 fk.f1, .int .i64 fk.f2, .int .i64 fk.f3, .int .i64 fk.f4.f0, .int .i64 fk.f4.f1, .slice E6 fk.f5.length r6, .slice E7 fk.f6.length r7] 27 (0, 0))) := ⟨by rw [hob]; exact blk_new wr _⟩
                  have HB3 := Aside0.mk (below_step HB.out hal)
                  have H20L : Aside0 (wa.heap.size ≤ wr.heap.size ∧ wv.heap.size ≤ wr.heap.size) := ⟨Nat.le_trans HB2.out.size HB.out.size, HB.out.size⟩
                  have HFK := Aside0.mk (And.intro (And.intro zc6 zc7) (And.intro (Kd.C_below zK6 hal) (Kd.C_below zK7 hal)))
                  have HSK : Aside0 (SmF fk) := ⟨by rw [hfk]; exact HTS.out.2 k hkt⟩
                  have HFKE := Aside0.mk hfk
                  clear hal zc6 zc7 zK6 zK7 hfk hkt
                  go_upto_region 27 with fail
                  rw [← hob]
                  generalize wr.alloc ob = we at H20 HB3 HFK ⊢
                  generalize wr.heap.size = b20 at H20 H20L ⊢
                  clear hob z0 z1 z2 z3 z4 z5 z6 z7 HB
                  have hwe := below_step HB2.out HB3.out
                  obtain ⟨ad10, Gi, ggi, e10, x0, hggi, hGi⟩ := atF_th (Kd.F_below (Kd.F_bound HY3a.out) hwe) (i : Int) hi0 hi2
                  obtain rfl := Option.some.inj e10
                  rw [Int.toNat_natCast] at x0
                  obtain ⟨gs, hgs⟩ : ∃ gs, gs = (rd_T62 TN (i : Int)).f0 := ⟨_, rfl⟩
                  rw [← hgs] at x0 hggi hGi hk2
                  obtain ⟨ad11, C6, l6, C7, l7, e11, z0, z1, z2, z3, z4, z5, z6, z7, zc6, zK6, zc7, zK7⟩ := atF_fr hGi (k : Int) hk0 hk2
                  subst e11
                  rw [Int.toNat_natCast] at z0 z1 z2 z3 z4 z5 z6 z7
                  obtain ⟨gk, hgk⟩ : ∃ gk, gk = rd_T27 gs (k : Int) := ⟨_, rfl⟩
                  rw [← hgk] at z0 z1 z2 z3 z4 z5 z6 z7 zc6 zK6 zc7 zK7
                  have t3 := (blk_cell (blk_below HYBa.out hwe) 3).trans rfl
                  obtain ⟨ob, hob⟩ : ∃ ob, ob = Obj.cells #[.int .i64 gk.f0, .int .i64 gk.f1, .int .i64 gk.f2, .int .i64 gk.f3, .int .i64 gk.f4.f0, .int .i64 gk.f4.f1, .slice C6 gk.f5.length l6, .slice C7 gk.f6.length l7] 27 := ⟨_, rfl⟩
                  have hal := below_alloc (Below.refl we.heap.size we) ob
                  have H21 : Aside0 ((we.alloc ob).heap[we.heap.size]? = some (.cells #[.int .i64 gk.f0, .int .i64 gk.f1, .int .i64 gk.f2, .int .i64 gk.f3, .int .i64 gk.f4.f0, .int .i64 gk.f4.f1, .slice C6 gk.f5.length l6, .slice C7 gk.f6.length l7] 27 (0, 0))) := ⟨by rw [hob]; exact blk_new we _⟩
                  have HB4 := Aside0.mk (below_step HB3.out hal)
                  have HLT20 : Aside0 (b20 < we.heap.size) := ⟨(Array.getElem?_eq_some_iff.1 H20.out).1⟩
                  have H20' := Aside0.mk (blk_below H20.out hal)
                  have HFK' := Aside0.mk (And.intro (Kd.C_below HFK.out.2.1 hal) (Kd.C_below HFK.out.2.2 hal))
                  have HGK := Aside0.mk (And.intro (And.intro zc6 zc7) (And.intro (Kd.F_below zK6 hal) (Kd.F_below zK7 hal)))
                  have HNBe := Aside0.mk (blk_below (blk_below HNBa.out hwe) hal)
                  have HGe := Aside0.mk (And.intro (Kd.F_below (Kd.F_below (Kd.F_bound HGa.out.2.1) hwe) hal) (Kd.F_below (Kd.F_below (Kd.F_bound HGa.out.2.2) hwe) hal))
                  have HGSE := Aside0.mk (And.intro hgs hgk)
                  have HFKC := Aside0.mk HFK.out.1
                  clear hal zc6 zc7 zK6 zK7 hgs hgk H20 HFK hwe hGi hggi e10
                  go_upto_region 28 with fail
                  rw [← hob]
                  generalize we.alloc ob = wf at H21 HB4 H20' HFK' HGK HNBe HGe ⊢
                  generalize we.heap.size = b21 at H21 HLT20 ⊢
                  clear hob z0 z1 z2 z3 z4 z5 z6 z7 x0 t3 HB3
                  by_cases hA : (i : Int) = a1
                  · have hAb : ((i : Int) == a1) = true := beq_iff_eq.mpr hA
                    by_cases hK : k = m
                    · have hKb : ((k : Int) == wrap64 ((fs.length : Int) - 1)) = true := by rw [HWM.out]; exact beq_iff_eq.mpr (by omega)
                      have e_ : gk = fn := by
                        rw [HGSE.out.2, HGSE.out.1, (HGS.out.2.2 hA).2, hK]
                        unfold rd_T27
                        rw [Int.toNat_natCast, List.getD_eq_getElem?_getD, List.getElem?_set_self (by have := HM.out; omega)]
                        rfl
                      rw [e_] at H21 HGK ⊢
                      clear hA hK e_
                      have n0_ := (blk_cell HNBe.out 0).trans rfl
                      have n1_ := (blk_cell HNBe.out 1).trans rfl
                      have n2_ := (blk_cell HNBe.out 2).trans rfl
                      have n3_ := (blk_cell HNBe.out 3).trans rfl
                      have n4_ := (blk_cell HNBe.out 4).trans rfl
                      have n5_ := (blk_cell HNBe.out 5).trans rfl
                      have n6_ := (blk_cell HNBe.out 6).trans rfl
                      have n7_ := (blk_cell HNBe.out 7).trans rfl
                      have hf0 := blk_frozen H20'.out 0
                      have hf1 := blk_frozen H20'.out 1
                      have hf2 := blk_frozen H20'.out 2
                      have hf3 := blk_frozen H20'.out 3
                      have hf4 := blk_frozen H20'.out 4
                      have hf5 := blk_frozen H20'.out 5
                      have hf6 := blk_frozen H20'.out 6
                      have hf7 := blk_frozen H20'.out 7
                      have v0 := (blk_cell H20'.out 0).trans rfl
                      have v1 := (blk_cell H20'.out 1).trans rfl
                      have v2 := (blk_cell H20'.out 2).trans rfl
                      have v3 := (blk_cell H20'.out 3).trans rfl
                      have v4 := (blk_cell H20'.out 4).trans rfl
                      have v5 := (blk_cell H20'.out 5).trans rfl
                      have v6 := (blk_cell H20'.out 6).trans rfl
                      have v7 := (blk_cell H20'.out 7).trans rfl
                      go_upto_region 30 with fail
                      generalize hwg : World.setCell (World.setCell (World.setCell (World.setCell (World.setCell (World.setCell (World.setCell (World.setCell wf _ _) _ _) _ _) _ _) _ _) _ _) _ _) _ _ = wg
                      have H20g : Aside0 (wg.heap[b20]? = some (.cells #[.int .i64 fn.f0, .int .i64 fn.f1, .int .i64 fn.f2, .int .i64 fn.f3, .int .i64 fn.f4.f0, .int .i64 fn.f4.f1, .slice B6 fn.f5.length e6, .slice B7 fn.f6.length e7] 27 (0, 0))) := ⟨by
                          rw [← hwg]
                          refine blk_put (cs := #[.int .i64 fn.f0, .int .i64 fn.f1, .int .i64 fn.f2, .int .i64 fn.f3, .int .i64 fn.f4.f0, .int .i64 fn.f4.f1, .slice B6 fn.f5.length e6, .slice E7 fk.f6.length r7]) ?_ 7 _ rfl
                          refine blk_put (cs := #[.int .i64 fn.f0, .int .i64 fn.f1, .int .i64 fn.f2, .int .i64 fn.f3, .int .i64 fn.f4.f0, .int .i64 fn.f4.f1, .slice E6 fk.f5.length r6, .slice E7 fk.f6.length r7]) ?_ 6 _ rfl
                          refine blk_put (cs := #[.int .i64 fn.f0, .int .i64 fn.f1, .int .i64 fn.f2, .int .i64 fn.f3, .int .i64 fn.f4.f0, .int .i64 fk.f4.f1, .slice E6 fk.f5.length r6, .slice E7 fk.f6.length r7]) ?_ 5 _ rfl
                          refine blk_put (cs := #[.int .i64 fn.f0, .int .i64 fn.f1, .int .i64 fn.f2, .int .i64 fn.f3, .int .i64 fk.f4.f0, .int .i64 fk.f4.f1, .slice E6 fk.f5.length r6, .slice E7 fk.f6.length r7]) ?_ 4 _ rfl
                          refine blk_put (cs := #[.int .i64 fn.f0, .int .i64 fn.f1, .int .i64 fn.f2, .int .i64 fk.f3, .int .i64 fk.f4.f0, .int .i64 fk.f4.f1, .slice E6 fk.f5.length r6, .slice E7 fk.f6.length r7]) ?_ 3 _ rfl
                          refine blk_put (cs := #[.int .i64 fn.f0, .int .i64 fn.f1, .int .i64 fk.f2, .int .i64 fk.f3, .int .i64 fk.f4.f0, .int .i64 fk.f4.f1, .slice E6 fk.f5.length r6, .slice E7 fk.f6.length r7]) ?_ 2 _ rfl
                          refine blk_put (cs := #[.int .i64 fn.f0, .int .i64 fk.f1, .int .i64 fk.f2, .int .i64 fk.f3, .int .i64 fk.f4.f0, .int .i64 fk.f4.f1, .slice E6 fk.f5.length r6, .slice E7 fk.f6.length r7]) ?_ 1 _ rfl
                          refine blk_put (cs := #[.int .i64 fk.f0, .int .i64 fk.f1, .int .i64 fk.f2, .int .i64 fk.f3, .int .i64 fk.f4.f0, .int .i64 fk.f4.f1, .slice E6 fk.f5.length r6, .slice E7 fk.f6.length r7]) ?_ 0 _ rfl
                          exact H20'.out⟩
                      have hkg : ∀ k_, k_ ≠ b20 → wg.heap[k_]? = wf.heap[k_]? := fun k_ hk => by
                        rw [← hwg]
                        exact ((((((((heap_setCell_other _ _ k_ _ hk).trans (heap_setCell_other _ _ k_ _ hk)).trans (heap_setCell_other _ _ k_ _ hk)).trans (heap_setCell_other _ _ k_ _ hk)).trans (heap_setCell_other _ _ k_ _ hk)).trans (heap_setCell_other _ _ k_ _ hk)).trans (heap_setCell_other _ _ k_ _ hk)).trans (heap_setCell_other wf _ k_ _ hk))
                      have HBg : Aside0 (Below wv.heap.size wv wg) := ⟨by
                        rw [← hwg]
                        exact ((((((((HB4.out.setCell (p := ⟨b20, 0, none⟩) H20L.out.2 _).setCell (p := ⟨b20, 1, none⟩) H20L.out.2 _).setCell (p := ⟨b20, 2, none⟩) H20L.out.2 _).setCell (p := ⟨b20, 3, none⟩) H20L.out.2 _).setCell (p := ⟨b20, 4, none⟩) H20L.out.2 _).setCell (p := ⟨b20, 5, none⟩) H20L.out.2 _).setCell (p := ⟨b20, 6, none⟩) H20L.out.2 _).setCell (p := ⟨b20, 7, none⟩) H20L.out.2 _)⟩
                      have H21g := Aside0.mk ((hkg _ (by have := HLT20.out; omega)).trans H21.out)
                      have HGg := Aside0.mk (And.intro (Kd.F_now (Kd.F_step HGe.out.1 (fun k_ hk _ => hkg k_ (by have := hk.2; have := H20L.out.1; omega)))) (Kd.F_now (Kd.F_step HGe.out.2 (fun k_ hk _ => hkg k_ (by have := hk.2; have := H20L.out.1; omega)))))
                      have HGKg := Aside0.mk (And.intro (Kd.F_now (Kd.F_step HGK.out.2.1 (fun k_ hk _ => hkg k_ (by have := hk.2; have := H20L.out.1; omega)))) (Kd.F_now (Kd.F_step HGK.out.2.2 (fun k_ hk _ => hkg k_ (by have := hk.2; have := H20L.out.1; omega)))))
                      clear hwg hkg v0 v1 v2 v3 v4 v5 v6 v7 hf0 hf1 hf2 hf3 hf4 hf5 hf6 hf7 n0_ n1_ n2_ n3_ n4_ n5_ n6_ n7_
                      have v0 := (blk_cell H20g.out 0).trans rfl
                      have v1 := (blk_cell H20g.out 1).trans rfl
                      have v2 := (blk_cell H20g.out 2).trans rfl
                      have v3 := (blk_cell H20g.out 3).trans rfl
                      have v4 := (blk_cell H20g.out 4).trans rfl
                      have v5 := (blk_cell H20g.out 5).trans rfl
                      have v6 := (blk_cell H20g.out 6).trans rfl
                      have v7 := (blk_cell H20g.out 7).trans rfl
                      have u0 := (blk_cell H21g.out 0).trans rfl
                      have u1 := (blk_cell H21g.out 1).trans rfl
                      have u2 := (blk_cell H21g.out 2).trans rfl
                      have u3 := (blk_cell H21g.out 3).trans rfl
                      have u4 := (blk_cell H21g.out 4).trans rfl
                      have u5 := (blk_cell H21g.out 5).trans rfl
                      have u6 := (blk_cell H21g.out 6).trans rfl
                      have u7 := (blk_cell H21g.out 7).trans rfl
                      have HSV : Aside0 (backstitchkeep3_sameFrame.f (fn.f5.length + fn.f6.length + 1) fn.f0 fn.f1 fn.f2 fn.f3 fn.f4.f0 fn.f4.f1 fn.f5 fn.f6 fn.f0 fn.f1 fn.f2 fn.f3 fn.f4.f0 fn.f4.f1 fn.f5 fn.f6 = some true) := ⟨same_frame _ _ _ _ _ _ _ _ _ (by have := (HNS.out).1; omega) (by have := (HNS.out).2; omega) (by omega)⟩
                      go_wp2_with fail
                      refine (backstitchkeep3_sameFrame.calls (fn.f5.length + fn.f6.length + 1) fn.f0 fn.f1 fn.f2 fn.f3 fn.f4.f0 fn.f4.f1 B6 e6 fn.f5 B7 e7 fn.f6 fn.f0 fn.f1 fn.f2 fn.f3 fn.f4.f0 fn.f4.f1 C6 l6 fn.f5 C7 l7 fn.f6 true _ HGg.out.1 HGa.out.1.1 HGg.out.2 HGa.out.1.2 HGKg.out.1 HGK.out.1.1 HGKg.out.2 HGK.out.1.2 HSV.out).mono ?_
                      rintro e w8 ⟨rfl, hb8⟩
                      have HBn := Aside0.mk (below_step HBg.out hb8)
                      clear hb8
                      go_wp2_with fail
                      go_roundg (ti.f0.length - (k + 1))
                      case measure => have := HKQ.out; have := HKT.out; omega
                      case rel => exact ⟨k + 1, by first | rfl | rw [HK64.out], ⟨by have := HKT.out; omega, rfl⟩, HBn⟩
                    · have hKb : ((k : Int) == wrap64 ((fs.length : Int) - 1)) = false := by rw [HWM.out]; exact beq_eq_false_iff_ne.mpr (by omega)
                      have e_ : gk = fk := by
                        rw [HGSE.out.2, HGSE.out.1, (HGS.out.2.2 hA).2, HFKE.out, (HGS.out.2.2 hA).1]
                        unfold rd_T27
                        rw [Int.toNat_natCast, List.getD_eq_getElem?_getD, List.getElem?_set_ne (fun h => hK h.symm), ← List.getD_eq_getElem?_getD]
                      clear hA hK
                      rw [e_] at H21 HGK ⊢
                      have v0 := (blk_cell H20'.out 0).trans rfl
                      have v1 := (blk_cell H20'.out 1).trans rfl
                      have v2 := (blk_cell H20'.out 2).trans rfl
                      have v3 := (blk_cell H20'.out 3).trans rfl
                      have v4 := (blk_cell H20'.out 4).trans rfl
                      have v5 := (blk_cell H20'.out 5).trans rfl
                      have v6 := (blk_cell H20'.out 6).trans rfl
                      have v7 := (blk_cell H20'.out 7).trans rfl
                      have u0 := (blk_cell H21.out 0).trans rfl
                      have u1 := (blk_cell H21.out 1).trans rfl
                      have u2 := (blk_cell H21.out 2).trans rfl
                      have u3 := (blk_cell H21.out 3).trans rfl
                      have u4 := (blk_cell H21.out 4).trans rfl
                      have u5 := (blk_cell H21.out 5).trans rfl
                      have u6 := (blk_cell H21.out 6).trans rfl
                      have u7 := (blk_cell H21.out 7).trans rfl
                      have HSV : Aside0 (backstitchkeep3_sameFrame.f (fk.f5.length + fk.f6.length + 1) fk.f0 fk.f1 fk.f2 fk.f3 fk.f4.f0 fk.f4.f1 fk.f5 fk.f6 fk.f0 fk.f1 fk.f2 fk.f3 fk.f4.f0 fk.f4.f1 fk.f5 fk.f6 = some true) := ⟨same_frame _ _ _ _ _ _ _ _ _ (by have := (HSK.out).1; omega) (by have := (HSK.out).2; omega) (by omega)⟩
                      go_wp2_with fail
                      refine (backstitchkeep3_sameFrame.calls (fk.f5.length + fk.f6.length + 1) fk.f0 fk.f1 fk.f2 fk.f3 fk.f4.f0 fk.f4.f1 E6 r6 fk.f5 E7 r7 fk.f6 fk.f0 fk.f1 fk.f2 fk.f3 fk.f4.f0 fk.f4.f1 C6 l6 fk.f5 C7 l7 fk.f6 true _ HFK'.out.1 HFKC.out.1 HFK'.out.2 HFKC.out.2 (Kd.F_now HGK.out.2.1) HGK.out.1.1 (Kd.F_now HGK.out.2.2) HGK.out.1.2 HSV.out).mono ?_
                      rintro e w8 ⟨rfl, hb8⟩
                      have HBn := Aside0.mk (below_step HB4.out hb8)
                      clear hb8
                      go_wp2_with fail
                      go_roundg (ti.f0.length - (k + 1))
                      case measure => have := HKQ.out; have := HKT.out; omega
                      case rel => exact ⟨k + 1, by first | rfl | rw [HK64.out], ⟨by have := HKT.out; omega, rfl⟩, HBn⟩
                  · have hAb : ((i : Int) == a1) = false := beq_eq_false_iff_ne.mpr hA
                    have e_ : gk = fk := by rw [HGSE.out.2, HGSE.out.1, HGS.out.2.1 hA, HFKE.out]
                    clear hA
                    rw [e_] at H21 HGK ⊢
                    have v0 := (blk_cell H20'.out 0).trans rfl
                    have v1 := (blk_cell H20'.out 1).trans rfl
                    have v2 := (blk_cell H20'.out 2).trans rfl
                    have v3 := (blk_cell H20'.out 3).trans rfl
                    have v4 := (blk_cell H20'.out 4).trans rfl
                    have v5 := (blk_cell H20'.out 5).trans rfl
                    have v6 := (blk_cell H20'.out 6).trans rfl
                    have v7 := (blk_cell H20'.out 7).trans rfl
                    have u0 := (blk_cell H21.out 0).trans rfl
                    have u1 := (blk_cell H21.out 1).trans rfl
                    have u2 := (blk_cell H21.out 2).trans rfl
                    have u3 := (blk_cell H21.out 3).trans rfl
                    have u4 := (blk_cell H21.out 4).trans rfl
                    have u5 := (blk_cell H21.out 5).trans rfl
                    have u6 := (blk_cell H21.out 6).trans rfl
                    have u7 := (blk_cell H21.out 7).trans rfl
                    have HSV : Aside0 (backstitchkeep3_sameFrame.f (fk.f5.length + fk.f6.length + 1) fk.f0 fk.f1 fk.f2 fk.f3 fk.f4.f0 fk.f4.f1 fk.f5 fk.f6 fk.f0 fk.f1 fk.f2 fk.f3 fk.f4.f0 fk.f4.f1 fk.f5 fk.f6 = some true) := ⟨same_frame _ _ _ _ _ _ _ _ _ (by have := (HSK.out).1; omega) (by have := (HSK.out).2; omega) (by omega)⟩
                    go_wp2_with fail
                    refine (backstitchkeep3_sameFrame.calls (fk.f5.length + fk.f6.length + 1) fk.f0 fk.f1 fk.f2 fk.f3 fk.f4.f0 fk.f4.f1 E6 r6 fk.f5 E7 r7 fk.f6 fk.f0 fk.f1 fk.f2 fk.f3 fk.f4.f0 fk.f4.f1 C6 l6 fk.f5 C7 l7 fk.f6 true _ HFK'.out.1 HFKC.out.1 HFK'.out.2 HFKC.out.2 (Kd.F_now HGK.out.2.1) HGK.out.1.1 (Kd.F_now HGK.out.2.2) HGK.out.1.2 HSV.out).mono ?_
                    rintro e w8 ⟨rfl, hb8⟩
                    have HBn := Aside0.mk (below_step HB4.out hb8)
                    clear hb8
                    go_wp2_with fail
                    go_roundg (ti.f0.length - (k + 1))
                    case measure => have := HKQ.out; have := HKT.out; omega
                    case rel => exact ⟨k + 1, by first | rfl | rw [HK64.out], ⟨by have := HKT.out; omega, rfl⟩, HBn⟩
                · have e_ : k = ti.f0.length := by have := HKQ.out; omega
                  subst e_
                  have hdeck : decide ((ti.f0.length : Int) < (ti.f0.length : Int)) = false := decide_eq_false (by omega)
                  have hdeck2 : decide (ti.f0.length < ti.f0.length) = false := decide_eq_false hkt
                  have HBn := Aside0.mk (below_step HB2.out HB.out)
                  clear hkt
                  go_wp2_with fail
                  go_roundg (l0_3.length - (i + 1))
                  case measure => have := HIQ.out; have := HLT.out; omega
                  case rel => exact ⟨i + 1, by first | rfl | rw [HW64.out], ⟨by have := HLT.out; omega, rfl⟩, HBn⟩
            · have e_ : i = l0_3.length := by have := HIQ.out; omega
              subst e_
              have hdec : decide ((l0_3.length : Int) < (l0_3.length : Int)) = false := decide_eq_false (by omega)
              have hdec2 : decide (l0_3.length < l0_3.length) = false := decide_eq_false hlt
              have HB5 := Aside0.mk (below_step HBa.out HB.out)
              have HYB5 := Aside0.mk (blk_below HYBa.out HB.out)
              have HSB5 := Aside0.mk (blk_below HSBa.out HB.out)
              have HXB5 := Aside0.mk (blk_below HXBa.out HB.out)
              have HY5 := Aside0.mk (And.intro (Kd.F_below HYa.out.1 HB.out) (And.intro (Kd.F_below HYa.out.2.1 HB.out) (And.intro (Kd.F_below HYa.out.2.2.1 HB.out) (Kd.F_below HYa.out.2.2.2 HB.out))))
              clear hlt HIQ HB HBa HYBa HSBa HXBa HYa
              generalize wr = wb at HB5 HYB5 HSB5 HXB5 HY5 ⊢
              go_wp2_with fail
              refine (backstitchkeep3_leftBy.calls 4 true _ (leftBy_f 4 (Nat.le_refl _))).mono ?_
              rintro e w5 ⟨rfl, hb_⟩
              have hb_ : Below wb.heap.size wb w5 := by first | exact hb_ | exact hb_.below
              have HB6 := Aside0.mk (below_step HB5.out hb_)
              have HYB6 := Aside0.mk (blk_below HYB5.out hb_)
              have HSB6 := Aside0.mk (blk_below HSB5.out hb_)
              have HXB6 := Aside0.mk (blk_below HXB5.out hb_)
              have HY6 := Aside0.mk (And.intro (Kd.F_below HY5.out.1 hb_) (And.intro (Kd.F_below HY5.out.2.1 hb_) (And.intro (Kd.F_below HY5.out.2.2.1 hb_) (Kd.F_below HY5.out.2.2.2 hb_))))
              clear hb_ HB5 HYB5 HSB5 HXB5 HY5
              have y7 := (blk_cell HYB6.out 7).trans rfl
              have s7 := (blk_cell HSB6.out 7).trans rfl
              have y6 := (blk_cell HYB6.out 6).trans rfl
              have s6 := (blk_cell HSB6.out 6).trans rfl
              have y5 := (blk_cell HYB6.out 5).trans rfl
              have s5 := (blk_cell HSB6.out 5).trans rfl
              have x1 := (blk_cell HXB6.out 1).trans rfl
              have hww : (wrap64 (a0_7 + a2_1) == wrap64 (a0_7 + a2_1)) = true := beq_self_eq_true _
              have hx6 : (x6 == x6) = true := beq_self_eq_true _
              go_wp2_with fail
              refine (api_Val_22.calls (l0_5.length + 1) B5 d5 l0_5 A0_5 c0_5 l0_5 true _ (Kd.F_now HY6.out.2.2.2) HYC.out.2.2.2 (Kd.F_now (Kd.F_below HR5.out HB6.out)) HC5.out (eq_val l0_5 HOK.out.1.sa)).mono ?_
              rintro e w6 ⟨rfl, hb_⟩
              have hb_ : Below w5.heap.size w5 w6 := by first | exact hb_ | exact hb_.below
              have HB7 := Aside0.mk (below_step HB6.out hb_)
              have HYB7 := Aside0.mk (blk_below HYB6.out hb_)
              have HSB7 := Aside0.mk (blk_below HSB6.out hb_)
              have HXB7 := Aside0.mk (blk_below HXB6.out hb_)
              have HY7 := Aside0.mk (And.intro (Kd.F_below HY6.out.1 hb_) (And.intro (Kd.F_below HY6.out.2.1 hb_) (And.intro (Kd.F_below HY6.out.2.2.1 hb_) (Kd.F_below HY6.out.2.2.2 hb_))))
              clear hb_ HB6 HYB6 HSB6 HXB6 HY6
              have y2 := (blk_cell HYB7.out 2).trans rfl
              have s2 := (blk_cell HSB7.out 2).trans rfl
              clear y7 s7 y6 s6 y5 s5 x1
              go_wp2_with fail
              refine (backstitchref3_Eq_string.calls (l0_2.length + 1) B2 d2 l0_2 A0_2 c0_2 l0_2 true _ (Kd.F_now HY7.out.2.1) HYC.out.2.1 (Kd.F_now (Kd.F_below HR2.out HB7.out)) HC2.out (eq_strs l0_2 HOK.out.1.tx)).mono ?_
              rintro e w7 ⟨rfl, hb_⟩
              have hb_ : Below w6.heap.size w6 w7 := by first | exact hb_ | exact hb_.below
              have HB8 := Aside0.mk (below_step HB7.out hb_)
              have HYB8 := Aside0.mk (blk_below HYB7.out hb_)
              have HSB8 := Aside0.mk (blk_below HSB7.out hb_)
              have HXB8 := Aside0.mk (blk_below HXB7.out hb_)
              have HY8 := Aside0.mk (And.intro (Kd.F_below HY7.out.1 hb_) (And.intro (Kd.F_below HY7.out.2.1 hb_) (And.intro (Kd.F_below HY7.out.2.2.1 hb_) (Kd.F_below HY7.out.2.2.2 hb_))))
              clear hb_ HB7 HYB7 HSB7 HXB7 HY7
              have y1 := (blk_cell HYB8.out 1).trans rfl
              have s1 := (blk_cell HSB8.out 1).trans rfl
              go_wp2_with fail
              refine (api_Shape_24.calls (l0_1.length + 1) B1 d1 l0_1 A0_1 c0_1 l0_1 true _ (Kd.F_now HY8.out.1) HYC.out.1 (Kd.F_now (Kd.F_below HR1.out HB8.out)) HC1.out (eq_shapes l0_1 HOK.out.1.sh)).mono ?_
              rintro e w8 ⟨rfl, hb_⟩
              have hb_ : Below w7.heap.size w7 w8 := by first | exact hb_ | exact hb_.below
              have HB9 := Aside0.mk (below_step HB8.out hb_)
              have HYB9 := Aside0.mk (blk_below HYB8.out hb_)
              have HSB9 := Aside0.mk (blk_below HSB8.out hb_)
              have HXB9 := Aside0.mk (blk_below HXB8.out hb_)
              have HY9 := Aside0.mk (And.intro (Kd.F_below HY8.out.1 hb_) (And.intro (Kd.F_below HY8.out.2.1 hb_) (And.intro (Kd.F_below HY8.out.2.2.1 hb_) (Kd.F_below HY8.out.2.2.2 hb_))))
              clear hb_ HB8 HYB8 HSB8 HXB8 HY8
              have y4 := (blk_cell HYB9.out 4).trans rfl
              have s4 := (blk_cell HSB9.out 4).trans rfl
              go_wp2_with fail
              refine (api_End_25.calls (l0_4.length + 1) B4 d4 l0_4 A0_4 c0_4 l0_4 true _ (Kd.F_now HY9.out.2.2.1) HYC.out.2.2.1 (Kd.F_now (Kd.F_below HR4.out HB9.out)) HC4.out (eq_ends l0_4 HOK.out.1.en)).mono ?_
              rintro e w9 ⟨rfl, hb_⟩
              have hb_ : Below w8.heap.size w8 w9 := by first | exact hb_ | exact hb_.below
              have HB10 := Aside0.mk (below_step HB9.out hb_)
              have HYB10 := Aside0.mk (blk_below HYB9.out hb_)
              have HSB10 := Aside0.mk (blk_below HSB9.out hb_)
              have HXB10 := Aside0.mk (blk_below HXB9.out hb_)
              have HY10 := Aside0.mk (And.intro (Kd.F_below HY9.out.1 hb_) (And.intro (Kd.F_below HY9.out.2.1 hb_) (And.intro (Kd.F_below HY9.out.2.2.1 hb_) (Kd.F_below HY9.out.2.2.2 hb_))))
              clear hb_ HB9 HYB9 HSB9 HXB9 HY9
              go_wp2_with fail
              go_ret
              exact ⟨rfl, HB10.out⟩
end Go.Proofs.Ytchcbncelckgeaa.PM
