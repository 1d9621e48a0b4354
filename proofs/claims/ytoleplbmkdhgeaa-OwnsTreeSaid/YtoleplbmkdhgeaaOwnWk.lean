/- Package owns walked: walk. -/
import Derived.Test.YtoleplbmkdhgeaaOwnRo
set_option linter.unusedVariables false
set_option linter.unusedSimpArgs false
namespace Go.Proofs.Ytoleplbmkdhgeaa.Own
open Go.RowKit Go.Proofs.YtoleplbmkdhgeaaW.PrintWords Go.Proofs.YtoleplbmkdhgeaaW.PrintLast Go.Proofs.YtoleplbmkdhgeaaW.PrintMore Go.Proofs.Ytoleplbmkdhgeaa.PN Go.Proofs.Ytoleplbmkdhgeaa.Hnd Go.Lib

/-! How much is written at most. -/
def tot (fr : List (List Int)) : Nat := (fr.map List.length).sum
def pot (M : Nat) (s : Ds) : Nat := tot s.fr + s.ord.length + (M + 1) * unv s
theorem tot_set : ∀ (fr : List (List Int)) (i : Nat) (n : Int), tot (fr.set i (fr.getD i [] ++ [n])) ≤ tot fr + 1 := by
  intro fr
  induction fr with
  | nil => intro i n; simp [tot]
  | cons x l ih =>
    intro i n
    cases i with
    | zero => simp [tot]; omega
    | succ i =>
      have := ih i n
      simp only [tot, List.set_cons_succ, List.map_cons, List.sum_cons, List.getD_cons_succ] at this ⊢
      omega
theorem row_tot : ∀ (fr : List (List Int)) (i : Nat), (fr.getD i []).length ≤ tot fr := by
  intro fr
  induction fr with
  | nil => intro i; simp [tot]
  | cons x l ih =>
    intro i
    cases i with
    | zero => simp [tot]
    | succ i => have := ih i; simp only [tot, List.getD_cons_succ, List.map_cons, List.sum_cons] at this ⊢; omega
theorem rowF_pot {M : Nat} {s : Ds} (k : Int) : (rowF s.fr k).length ≤ pot M s := Nat.le_trans (row_tot s.fr k.toNat) (by unfold pot; omega)
theorem ord_pot {M : Nat} {s : Ds} : s.ord.length ≤ pot M s := by unfold pot; omega
theorem walk_pot {has : List (List Int)} {M N : Nat} (hM : ∀ n, (rowF has n).length ≤ M) (hin : ∀ p, 0 ≤ p → p < (N : Int) → ∀ q ∈ rowF has p, 0 ≤ q ∧ q < (N : Int)) : ∀ (k : Nat) (s : Ds) (n : Int), s.pl.length = N → 0 ≤ n ∧ n < (N : Int) →
    unv (walkP has k n s) ≤ unv s ∧ pot M (walkP has k n s) ≤ pot M s ∧ (walkP has k n s).pl.length = N := by
  intro k
  induction k with
  | zero => intro s n hl _; exact ⟨Nat.le_refl _, Nat.le_refl _, hl⟩
  | succ k ih =>
    intro s n hl hn
    unfold walkP
    by_cases hv : vis s n
    · rw [if_pos (show s.pl.getD n.toNat (-2) ≠ -2 from hv)]
      exact ⟨Nat.le_refl _, Nat.le_refl _, hl⟩
    rw [if_neg (show ¬ s.pl.getD n.toNat (-2) ≠ -2 from hv)]
    have hu := unv_mark (s := s) (n := n) (by rw [hl]; exact hn) hv
    have hk : ∀ (l : List Int) (t : Ds), (∀ q ∈ l, 0 ≤ q ∧ q < (N : Int)) → t.pl.length = N → unv (kids (walkP has k) n l t) ≤ unv t ∧ pot M (kids (walkP has k) n l t) ≤ pot M t + l.length ∧ (kids (walkP has k) n l t).pl.length = N := by
      intro l
      induction l with
      | nil => intro t _ ht; exact ⟨Nat.le_refl _, Nat.le_refl _, ht⟩
      | cons q l ihl =>
        intro t hq ht
        obtain ⟨a1, a2, a3⟩ := ih t q ht (hq q (List.mem_cons_self ..))
        have b : unv (kid1 (walkP has k) n t q) = unv (walkP has k q t) := rfl
        have c : pot M (kid1 (walkP has k) n t q) ≤ pot M (walkP has k q t) + 1 := by
          have := tot_set (walkP has k q t).fr q.toNat n
          unfold pot
          rw [b]
          have e : (kid1 (walkP has k) n t q).ord.length = (walkP has k q t).ord.length := rfl
          rw [e]
          have e2 : tot (kid1 (walkP has k) n t q).fr ≤ tot (walkP has k q t).fr + 1 := this
          omega
        obtain ⟨d1, d2, d3⟩ := ihl (kid1 (walkP has k) n t q) (fun x hx => hq x (List.mem_cons_of_mem _ hx)) a3
        unfold kids at d1 d2 d3 ⊢
        rw [List.foldl_cons, List.length_cons]
        exact ⟨by omega, by omega, d3⟩
    obtain ⟨e1, e2, e3⟩ := hk (rowF has n) (mark s n) (hin n hn.1 hn.2) (by unfold mark; simp only [List.length_set]; exact hl)
    have hm := hM n
    have f1 : unv (leaveP (kids (walkP has k) n (rowF has n) (mark s n)) n) = unv (kids (walkP has k) n (rowF has n) (mark s n)) := rfl
    have f2 : pot M (leaveP (kids (walkP has k) n (rowF has n) (mark s n)) n) = pot M (kids (walkP has k) n (rowF has n) (mark s n)) + 1 := by unfold pot; rw [f1]; unfold leaveP; simp only [List.length_append, List.length_singleton]; omega
    have f3 : pot M (mark s n) + (M + 1) = pot M s := by unfold pot; rw [← hu, Nat.mul_add, Nat.mul_one]; unfold mark; simp only; omega
    exact ⟨by omega, by omega, e3⟩
theorem kids_snoc (f : Int → Ds → Ds) (n : Int) (l : List Int) (s : Ds) {j : Nat} (h : j < l.length) : kids f n (l.take (j + 1)) s = kid1 f n (kids f n (l.take j) s) l[j] := by
  unfold kids
  rw [List.take_succ_eq_append_getElem h, List.foldl_append]
  rfl
section
variable {W : World} {B g N : Nat} {h0 h1 vP vo vF vD : Value} {ps : List Value} {s : Ds} {D : List Int} (h : OS W B g h0 h1 vP vo vF vD ps N s D)
include h
theorem OS.grownF {W1 : World} {k : Nat} (hk : k < N) (hg : W.grownBy W1 (rowV ps (k : Int)).ownBlock) : W1.ownsRow B 23 1 vF N ps := own_same h.rf (fun q hq => hg.block q (h.rf.lt q hq).2 (fun e3 => own_ne2 h.rf (h.rr k hk) (by decide) q hq e3.symm))
theorem OS.grownG {W1 : World} (hg : W.grownBy W1 vo.ownBlock) : W1.heap[g]? = some (.cells #[h0, h1, vP, vo, vF, vD] 75 (0, 0)) := (hg.block g (blk_lt h.obj) (fun e3 => own_ne h.ro h.obj (by decide) e3.symm)).trans h.obj
end
theorem infoI : (Try.prog.info? 3).map (fun i => (i.zero, i.size, i.bytes)) = some (some (.int .i64 0), 1, 8) := by kernel_rfl
set_option maxHeartbeats 32000000 in
set_option maxRecDepth 100000 in
theorem walk_calls {has : List (List Int)} {M N : Nat} {W0 : World} {g : Nat} {AH : Option Addr} {cH : Nat} {h1 vP vF vD : Value} {D : List Int} (hN : has.length = N) (hN2 : N ≤ 1000000) (hM : ∀ n, (rowF has n).length ≤ M) (hM2 : M ≤ 1000000) (hin : ∀ p, 0 ≤ p → p < (N : Int) → ∀ q ∈ rowF has p, 0 ≤ q ∧ q < (N : Int)) (hH : Kd.C (Kd.slice 3 (Kd.int .i64)) W0 AH has.length has) :
    ∀ (k : Nat) (W : World) (s : Ds) (n : Int) (vo : Value) (ps : List Value), OS W W0.heap.size g (.slice AH N cH) h1 vP vo vF vD ps N s D → unv s ≤ k → 0 ≤ n ∧ n < (N : Int) → Below W0.heap.size W0 W → pot M s ≤ 1000000 →
    Calls Try.prog 56 #[.pointer (some ⟨g, 0, none⟩), .int .i64 n] W fun e w' => e = .returned (.tuple #[]) ∧ ∃ vo' ps', OS w' W0.heap.size g (.slice AH N cH) h1 vP vo' vF vD ps' N (walkP has k n s) D ∧ Below W0.heap.size W w' := by
  intro k
  induction k with
  | zero =>
    intro W s n vo ps h hu hn hB hp
    have hv := unv_zero (s := s) (by omega) (n := n) (by rw [h.lp]; exact hn)
    obtain ⟨bP, cP, eP⟩ := h.sP (by omega)
    have c2 := h.c2
    rw [eP] at c2
    have px := h.cellP eP (i := n.toNat) (by omega)
    have n0 : (0 : Int) ≤ n := hn.1
    have n1 : n < (N : Int) := hn.2
    have d0 : (s.pl.getD n.toNat (-2) != -2) = true := bne_iff_ne.mpr hv
    have HO := Aside0.mk h
    clear h hu hn hB hp hv eP hH
    generalize s.pl.getD n.toNat (-2) = pn at px d0
    go_enter Try.func56, Try.ntmps56
    go_wp2_with fail
    refine bodyPost_ret (results_none rfl _ _ _) rfl ?_
    exact ⟨rfl, vo, ps, HO.out, Below.refl _ _⟩
  | succ k ih =>
    intro W s n vo ps h hu hn hB hp
    obtain ⟨bP, cP, eP⟩ := h.sP (by omega)
    have c2 := h.c2
    rw [eP] at c2
    have px := h.cellP eP (i := n.toNat) (by omega)
    have n0 : (0 : Int) ≤ n := hn.1
    have n1 : n < (N : Int) := hn.2
    have HIH := Aside0.mk ih
    have HO := Aside0.mk h
    have HH := Aside0.mk hH
    have HB0 := Aside0.mk hB
    have HNN := Aside0.mk hn
    clear ih
    by_cases hv : vis s n
    · have d0 : (s.pl.getD n.toNat (-2) != -2) = true := bne_iff_ne.mpr hv
      have HV : Aside0 (walkP has (k + 1) n s = s) := ⟨by unfold walkP; rw [if_pos (show s.pl.getD n.toNat (-2) ≠ -2 from hv)]⟩
      clear h hu hn hH hp hv eP hB
      generalize s.pl.getD n.toNat (-2) = pn at px d0
      go_enter Try.func56, Try.ntmps56
      go_wp2_with fail
      refine bodyPost_ret (results_none rfl _ _ _) rfl ?_
      exact ⟨rfl, vo, ps, by rw [HV.out]; exact HO.out, Below.refl _ _⟩
    have d0 : (s.pl.getD n.toNat (-2) != -2) = false := by simpa [vis] using hv
    have HV : Aside0 (walkP has (k + 1) n s = leaveP (kids (walkP has k) n (rowF has n) (mark s n)) n) := ⟨by unfold walkP; rw [if_neg (show ¬ s.pl.getD n.toNat (-2) ≠ -2 from hv)]⟩
    have HU1 : Aside0 (unv (mark s n) ≤ k) := ⟨by have := unv_mark (s := s) (n := n) (by rw [h.lp]; exact hn) hv; omega⟩
    have HP1 : Aside0 (pot M (mark s n) + (M + 1) ≤ 1000000) := ⟨by
      have hm := unv_mark (s := s) (n := n) (by rw [h.lp]; exact hn) hv
      have f3 : pot M (mark s n) + (M + 1) = pot M s := by unfold pot; rw [← hm, Nat.mul_add, Nat.mul_one]; unfold mark; simp only; omega
      omega⟩
    have fz := h.fzP eP n.toNat
    have hOm := h.setP eP n.toNat (-1)
    have HOm : Aside0 (OS (W.setCell ⟨bP, n.toNat, none⟩ (.int .i64 (-1))) W0.heap.size g (.slice AH N cH) h1 vP vo vF vD ps N (mark s n) D) := ⟨hOm⟩
    have HBm : Aside0 (Below W0.heap.size W (W.setCell ⟨bP, n.toNat, none⟩ (.int .i64 (-1)))) := ⟨(Below.refl _ _).setCell (p := ⟨bP, n.toNat, none⟩) (by have h_ := h.rp.lt bP (by rw [eP]; rfl); exact h_.1) _⟩
    clear h hu hn hH hp hv eP hOm hB
    generalize s.pl.getD n.toNat (-2) = pn at px d0
    go_enter Try.func56, Try.ntmps56
    go_upto_region 2 with fail
    clear px c2 fz d0
    generalize W.setCell ⟨bP, n.toNat, none⟩ (.int .i64 (-1)) = w1 at HOm HBm ⊢
    have HB1 := Aside0.mk (HB0.out.trans HBm.out)
    have c0 := HOm.out.c0
    obtain ⟨adH, cz, eH, hcz, hKz, hcellz⟩ := Kd.C_get HH.out [] n n0 (by rw [hN]; exact n1)
    obtain ⟨Ai, ci, rfl, hli, hCi⟩ := hKz
    have hrow0 : W0.cell? (adH.add n.toNat) = some (.slice Ai (has.getD n.toNat []).length ci) := by
      have h_ := hcellz 0 _ rfl
      simpa [Kd.slice] using h_
    have hrow : w1.cell? (adH.add n.toNat) = some (.slice Ai (rowF has n).length ci) := (HB1.out.cell (World.block_lt_of_cell? W0 _ hrow0)).trans hrow0
    have HCI : Aside0 (Kd.C (Kd.int .i64) W0 Ai (rowF has n).length (rowF has n)) := ⟨hCi⟩
    have HRI : Aside0 (∀ q ∈ rowF has n, 0 ≤ q ∧ q < (N : Int)) := ⟨hin n n0 n1⟩
    have HRM : Aside0 ((rowF has n).length ≤ M ∧ M ≤ 1000000) := ⟨hM n, hM2⟩
    subst eH
    clear hcz hcellz hli hCi hrow0
    obtain ⟨l, hl⟩ : ∃ l, l = rowF has n := ⟨_, rfl⟩
    rw [← hl] at hrow HCI HRI HRM HV
    have HLE := Aside0.mk hl
    clear hl
    go_wp2_with fail
    clear hrow c0
    go_loopg [29] l.length (fun kq v29 w' => ∃ (j : Nat) (vo' : Value) (ps' : List Value), v29 = .int .i64 (j : Int) ∧ Aside0 (j ≤ l.length ∧ kq = l.length - j) ∧ Aside0 (OS w' W0.heap.size g (.slice (some adH) N cH) h1 vP vo' vF vD ps' N (kids (walkP has k) n (l.take j) (mark s n)) D) ∧ Aside0 (Below W0.heap.size W w') ∧ Aside0 (unv (kids (walkP has k) n (l.take j) (mark s n)) ≤ k ∧ pot M (kids (walkP has k) n (l.take j) (mark s n)) ≤ pot M (mark s n) + j))
    case atStart => exact ⟨0, vo, ps, rfl, ⟨Nat.zero_le _, by omega⟩, HOm, HBm, ⟨HU1.out, Nat.le_refl _⟩⟩
    case round =>
      obtain ⟨j, vo', ps', rfl, HJQ, HOj, HBj, HUj⟩ := hrel
      have HB2 := Aside0.mk (HB0.out.trans HBj.out)
      by_cases hlj : j < l.length
      · have hj0 : (0 : Int) ≤ (j : Int) := by omega
        have hj1 : (j : Int) < (l.length : Int) := by omega
        obtain ⟨ad2, e, hy⟩ := Kd.at_int (Kd.C_below HCI.out HB2.out) (j : Int) (by omega) (by omega)
        rw [rdI l j hlj] at hy
        rw [Int.toNat_natCast] at hy
        subst e
        have hjec : decide ((j : Int) < (l.length : Int)) = true := decide_eq_true hj1
        have hjec2 : decide (j < l.length) = true := decide_eq_true hlj
        have HLJ := Aside0.mk hlj
        have HJW : Aside0 (wrap64 ((j : Int) + 1) = ((j + 1 : Nat) : Int)) := ⟨by have := HRM.out; unfold wrap64; omega⟩
        have HKS := Aside0.mk (kids_snoc (walkP has k) n l (mark s n) hlj)
        have hq := HRI.out l[j] (List.getElem_mem hlj)
        generalize l[j] = q at hy hq HKS
        have HQ := Aside0.mk hq
        generalize ht : kids (walkP has k) n (l.take j) (mark s n) = t at HOj HUj HKS
        have hlen := HOj.out.lp
        have hwp := walk_pot hM hin k t q hlen hq
        have HWP := Aside0.mk hwp
        have HPT : Aside0 (pot M t ≤ 1000000) := ⟨by have := HUj.out.2; have := HP1.out; have := HRM.out; omega⟩
        clear hlj hq ht hlen hwp
        go_wp2_with fail
        have hcall := HIH.out wr t q vo' ps' HOj.out HUj.out.1 HQ.out HB2.out HPT.out
        have HCALL := Aside0.mk hcall
        clear hcall hy
        refine HCALL.out.mono ?_
        clear HCALL
        rintro e w5 ⟨rfl, vo5, ps5, hO5, hb5⟩
        have HO5 := Aside0.mk hO5
        have HB5 := Aside0.mk (HBj.out.trans hb5)
        clear hO5 hb5 HOj HBj HB2
        have HKS2 : Aside0 (kids (walkP has k) n (l.take (j + 1)) (mark s n) = ⟨(walkP has k q t).pl, (walkP has k q t).ord, addF (walkP has k q t).fr q n⟩) := ⟨HKS.out⟩
        clear HKS
        generalize walkP has k q t = t5 at HO5 HWP HKS2
        obtain ⟨bF, cF, eF⟩ := HO5.out.sF (by have := HQ.out; omega)
        have hrw := HO5.out.rowC (i := q.toNat) (by have := HQ.out; omega)
        have kF := HO5.out.cellF eF (i := q.toNat) (by have := HQ.out; omega)
        have hrr := HO5.out.rr q.toNat (by have := HQ.out; omega)
        have hcq : ((q.toNat : Nat) : Int) = q := by have := HQ.out; omega
        rw [hcq] at hrw kF hrr
        obtain ⟨AR, cR, eR, hcR, hCR⟩ := hrw
        rw [eR] at kF hrr
        have c4 := HO5.out.c4
        rw [eF] at c4
        have HRR := Aside0.mk hrr
        have HER := Aside0.mk eR
        have HEF := Aside0.mk eF
        have HRL : Aside0 ((rowF t5.fr q).length ≤ 1000000) := ⟨by have h_ := rowF_pot (M := M) (s := t5) q; have := HWP.out.2.1; have := HPT.out; omega⟩
        have q0 : (0 : Int) ≤ q := HQ.out.1
        have q1 : q < (N : Int) := HQ.out.2
        have HU := Try.underlying23
        have HCQ := Aside0.mk hcq
        have HBS5 : Aside0 (W0.heap.size ≤ w5.heap.size) := ⟨by have h_ := HO5.out.gB; have h2_ := blk_lt HO5.out.obj; omega⟩
        clear hrr eR eF hcR hCR hcq
        have hst := Below.refl w5.heap.size w5
        go_wp2_with fail
        refine start_ (n := 17) (S := fun w' => Below W0.heap.size w5 w' ∧ w'.cell? ⟨g, 4, none⟩ = some (.slice (some ⟨bF, 0, none⟩) N cF) ∧ w'.cell? ⟨bF, q.toNat, none⟩ = some (.slice AR (rowF t5.fr q).length cR)) (ds := [16]) #[false, false, false, false, false, false, false, false, false, false, false, false, false, false, false, false, false] (by kernel_rfl) rfl rfl ⟨(below_drew (Below.refl _ _)), c4, kF⟩ (fun hHeld => ?_)
        have hst := below_drew hst
        generalize w5.drew = w16 at hHeld hst ⊢
        refine pure_ (i := 0) (N := some 36) (v := ?_) (a' := ?_) #[true, false, false, false, false, false, false, false, false, false, false, false, false, false, false, false, false] rfl rfl (by kernel_rfl) (fun _ _ _ h => h) (Or.inl ⟨by rfl, ?_⟩) ?_ ?_
        rotate_left
        · intro w'
          go_simp
          with_reducible rfl
        rotate_left
        · simp only [Act.put, List.setIfInBounds_toArray, List.set_cons_zero, List.set_cons_succ, i64_w, i32_w]
          rfl
        refine pure_ (i := 1) (N := some 37) (v := ?_) (a' := ?_) #[true, true, false, false, false, false, false, false, false, false, false, false, false, false, false, false, false] rfl rfl (by kernel_rfl) (fun _ _ _ h => h) (Or.inl ⟨by rfl, ?_⟩) ?_ ?_
        rotate_left
        · intro w'
          go_simp
          with_reducible rfl
        rotate_left
        · simp only [Act.put, List.setIfInBounds_toArray, List.set_cons_zero, List.set_cons_succ, i64_w, i32_w]
          rfl
        refine pure_ (i := 2) (N := some 38) (v := ?_) (a' := ?_) #[true, true, true, false, false, false, false, false, false, false, false, false, false, false, false, false, false] rfl rfl (by kernel_rfl) (fun _ _ _ h => h) (Or.inl ⟨by rfl, ?_⟩) ?_ ?_
        rotate_left
        · intro w'
          go_simp
          with_reducible rfl
        rotate_left
        · simp only [Act.put, List.setIfInBounds_toArray, List.set_cons_zero, List.set_cons_succ, i64_w, i32_w]
          rfl
        refine pure_ (i := 4) (N := some 40) (v := ?_) (a' := ?_) #[true, true, true, false, true, false, false, false, false, false, false, false, false, false, false, false, false] rfl rfl (by kernel_rfl) (fun _ _ _ h => h) (Or.inl ⟨by rfl, ?_⟩) ?_ ?_
        rotate_left
        · intro w'
          go_simp
          with_reducible rfl
        rotate_left
        · simp only [Act.put, List.setIfInBounds_toArray, List.set_cons_zero, List.set_cons_succ, i64_w, i32_w]
          rfl
        refine pure_ (i := 5) (N := some 41) (v := ?_) (a' := ?_) #[true, true, true, false, true, true, false, false, false, false, false, false, false, false, false, false, false] rfl rfl (by kernel_rfl) (fun _ _ _ h => h) (Or.inl ⟨by rfl, ?_⟩) ?_ ?_
        rotate_left
        · intro w'
          go_simp
          with_reducible rfl
        rotate_left
        · simp only [Act.put, List.setIfInBounds_toArray, List.set_cons_zero, List.set_cons_succ, i64_w, i32_w]
          rfl
        refine pure_ (i := 6) (N := some 42) (v := ?_) (a' := ?_) #[true, true, true, false, true, true, true, false, false, false, false, false, false, false, false, false, false] rfl rfl (by kernel_rfl) (fun _ _ _ h => h) (Or.inl ⟨by rfl, ?_⟩) ?_ ?_
        rotate_left
        · intro w'
          go_simp
          with_reducible rfl
        rotate_left
        · simp only [Act.put, List.setIfInBounds_toArray, List.set_cons_zero, List.set_cons_succ, i64_w, i32_w]
          rfl
        refine pure_ (i := 7) (N := some 43) (v := ?_) (a' := ?_) #[true, true, true, false, true, true, true, true, false, false, false, false, false, false, false, false, false] rfl rfl (by kernel_rfl) (fun _ _ _ h => h) (Or.inl ⟨by rfl, ?_⟩) ?_ ?_
        rotate_left
        · intro w'
          go_simp
          with_reducible rfl
        rotate_left
        · simp only [Act.put, List.setIfInBounds_toArray, List.set_cons_zero, List.set_cons_succ, i64_w, i32_w]
          rfl
        refine pure_ (i := 9) (N := some 45) (v := ?_) (a' := ?_) #[true, true, true, false, true, true, true, true, false, true, false, false, false, false, false, false, false] rfl rfl (by kernel_rfl) (fun _ _ _ h => h) (Or.inl ⟨by rfl, ?_⟩) ?_ ?_
        rotate_left
        · intro w'
          go_simp
          with_reducible rfl
        rotate_left
        · simp only [Act.put, List.setIfInBounds_toArray, List.set_cons_zero, List.set_cons_succ, i64_w, i32_w]
          rfl
        refine pure_ (i := 12) (N := some 48) (v := ?_) (a' := ?_) #[true, true, true, false, true, true, true, true, false, true, false, false, true, false, false, false, false] rfl rfl (by kernel_rfl) (fun _ _ _ h => h) (Or.inl ⟨by rfl, ?_⟩) ?_ ?_
        rotate_left
        · intro w'
          go_simp
          with_reducible rfl
        rotate_left
        · simp only [Act.put, List.setIfInBounds_toArray, List.set_cons_zero, List.set_cons_succ, i64_w, i32_w]
          rfl
        refine take_ (i := 3) (N := some 39) (v := ?_) (a' := ?_) #[true, true, true, true, true, true, true, true, false, true, false, false, true, false, false, false, false] rfl rfl (by kernel_rfl) (fun _ _ _ h => h) (Or.inl ⟨by rfl, ?_⟩) hHeld ?_ ?_
        rotate_left
        · rintro w' ⟨s0, s1, s2⟩
          go_simp
          with_reducible rfl
        rotate_left
        · simp only [Act.put, List.setIfInBounds_toArray, List.set_cons_zero, List.set_cons_succ, i64_w, i32_w]
          rfl
        refine take_ (i := 8) (N := some 44) (v := ?_) (a' := ?_) #[true, true, true, true, true, true, true, true, true, true, false, false, true, false, false, false, false] rfl rfl (by kernel_rfl) (fun _ _ _ h => h) (Or.inl ⟨by rfl, ?_⟩) hHeld ?_ ?_
        rotate_left
        · rintro w' ⟨s0, s1, s2⟩
          go_simp
          with_reducible rfl
        rotate_left
        · simp only [Act.put, List.setIfInBounds_toArray, List.set_cons_zero, List.set_cons_succ, i64_w, i32_w]
          rfl
        refine pure_ (i := 10) (N := some 46) (v := ?_) (a' := ?_) #[true, true, true, true, true, true, true, true, true, true, true, false, true, false, false, false, false] rfl rfl (by kernel_rfl) (fun _ _ _ h => h) (Or.inl ⟨by rfl, ?_⟩) ?_ ?_
        rotate_left
        · intro w'
          go_simp
          with_reducible rfl
        rotate_left
        · simp only [Act.put, List.setIfInBounds_toArray, List.set_cons_zero, List.set_cons_succ, i64_w, i32_w]
          rfl
        refine take_ (i := 11) (N := some 47) (v := ?_) (a' := ?_) #[true, true, true, true, true, true, true, true, true, true, true, true, true, false, false, false, false] rfl rfl (by kernel_rfl) (fun _ _ _ h => h) (Or.inl ⟨by rfl, ?_⟩) hHeld ?_ ?_
        rotate_left
        · rintro w' ⟨s0, s1, s2⟩
          go_simp
          with_reducible rfl
        rotate_left
        · simp only [Act.put, List.setIfInBounds_toArray, List.set_cons_zero, List.set_cons_succ, i64_w, i32_w]
          rfl
        refine one_ (i := 13) (N := some 49) #[true, true, true, true, true, true, true, true, true, true, true, true, true, true, false, false, false] rfl rfl (by kernel_rfl) (by decide) (fun K hK => ?_)
        refine value_ (w1 := ?_) (v := ?_) (by rfl) rfl ?_ ?_
        rotate_left 2
        · go_simp
          constructor
          · rfl
          · rfl
        refine hK.out _ _ ⟨hHeld.1.alloc (Nat.le_trans HBS5.out hst.size) _, pw_cell_below (below_alloc (Below.refl _ _) _) hHeld.2.1, pw_cell_below (below_alloc (Below.refl _ _) _) hHeld.2.2⟩ (fun hHeld => ?_)
        clear hK K
        refine norm_ (a' := ?_) ?_ ?_
        rotate_left
        · show Act.put _ (some 49) _ = _
          simp only [Act.put, List.setIfInBounds_toArray, List.set_cons_zero, List.set_cons_succ, i64_w, i32_w]
          rfl
        refine one_ (i := 14) (N := some 50) #[true, true, true, true, true, true, true, true, true, true, true, true, true, true, true, false, false] rfl rfl (by kernel_rfl) (by decide) (fun K hK => ?_)
        have HW13 := Aside0.mk hst
        refine step_append_cells (w0 := w5) W0.heap.size (by rfl) (.tmp 47) (.tmp 49) 23 3 (.int .i64 0) 1 8 rfl HU infoI rfl (by decide) (by decide) (.slice AR (rowF t5.fr q).length cR) (rowF t5.fr q).length (nums .i64 (rowF t5.fr q)) [.int .i64 n] rfl rfl rfl (by intro u hu; rw [List.mem_singleton.1 hu]; rfl) ?hr14 (below_cut HW13.out HBS5.out) ?hs14 ?hl14 ?_
        case hr14 => have h_ := (HO5.out.below HW13.out).rr q.toNat (by have := HQ.out; omega); rw [HCQ.out, HER.out] at h_; exact h_
        case hs14 => have h_ := HBS5.out; have h3_ := HW13.out.size; omega
        case hl14 => have h_ := HRL.out; omega
        intro v7 w7 ho7 hb7 hg7 hat7
        obtain ⟨A7, c7_, e7_, _⟩ := own_shape ho7
        subst e7_
        have hF7 := (HO5.out.below HW13.out).grownF (k := q.toNat) (by have := HQ.out; omega) (by rw [HCQ.out, HER.out]; exact hg7)
        rw [HEF.out] at hF7
        have hc7 : w7.cell? ⟨bF, q.toNat, none⟩ = some (.slice AR (rowF t5.fr q).length cR) := by have h2_ := (HO5.out.cellF HEF.out (i := q.toNat) (by have := HQ.out; omega)); rw [HCQ.out, HER.out] at h2_; have h3_ := HO5.out.rf; rw [HEF.out] at h3_; rw [hF7.cellAt q.toNat (by have := HQ.out; omega), ← h3_.cellAt q.toNat (by have := HQ.out; omega)]; exact h2_
        have hg47 : w7.cell? ⟨g, 4, none⟩ = some (.slice (some ⟨bF, 0, none⟩) N cF) := by have h_ := (blk_grown (HO5.out.below HW13.out).obj hg7 (fun e3 => own_ne ((HO5.out.below HW13.out).rr q.toNat (by have := HQ.out; omega)) (HO5.out.below HW13.out).obj (by decide) (by rw [HCQ.out, HER.out]; exact e3.symm))); have h2_ := (blk_cell h_ 4).trans rfl; rw [HEF.out] at h2_; exact h2_
        refine hK.out _ _ ⟨hb7, hg47, hc7⟩ (fun hHeld => ?_)
        clear hK K
        refine norm_ (a' := ?_) ?_ ?_
        rotate_left
        · show Act.put _ (some 50) _ = _
          simp only [Act.put, List.setIfInBounds_toArray, List.set_cons_zero, List.set_cons_succ, i64_w, i32_w]
          rfl
        refine pure_ (i := 15) (N := some 51) (v := ?_) (a' := ?_) #[true, true, true, true, true, true, true, true, true, true, true, true, true, true, true, true, false] rfl rfl (by kernel_rfl) (fun _ _ _ h => h) (Or.inl ⟨by rfl, ?_⟩) ?_ ?_
        rotate_left
        · intro w'
          go_simp
          with_reducible rfl
        rotate_left
        · simp only [Act.put, List.setIfInBounds_toArray, List.set_cons_zero, List.set_cons_succ, i64_w, i32_w]
          rfl
        refine last_ (i := 16) (N := none) #[true, true, true, true, true, true, true, true, true, true, true, true, true, true, true, true, true] rfl rfl (by kernel_rfl) (by decide) (fun K hK => ?_)
        have hf7 : w7.frozen? ⟨bF, q.toNat, none⟩ = false := hF7.frozenAt q.toNat
        have hd7 := hHeld.2.2
        refine skip_ (w1 := ?_) (by rfl) rfl ?_ ?_
        rotate_left
        · go_simp
          rfl
        refine hK.out _ _ ?_
        clear hK K
        refine done_ (by kernel_rfl) ?_
        have HO7 := Aside0.mk ho7
        have HG7 := Aside0.mk hg7
        have HAT7 := Aside0.mk hat7
        have HB7 := Aside0.mk hb7
        clear hst ho7 hg7 hat7 hF7 hb7 hc7 hg47
        have hpush := (HO5.out.below HW13.out).push HEF.out (k := q.toNat) (v1 := .slice A7 ((rowF t5.fr q).length + 1) c7_) (y := n) (by have := HQ.out; omega) (by rw [HCQ.out, List.length_append, List.length_singleton]; have h_ := HO7.out; unfold nums at h_ ⊢; rw [List.map_append]; exact h_) (by rw [HCQ.out, HER.out]; exact HG7.out) (by rw [HCQ.out, HER.out]; exact HAT7.out)
        rw [HCQ.out] at hpush
        have HO8 : Aside0 (OS (w7.setCell ⟨bF, q.toNat, none⟩ (.slice A7 ((rowF t5.fr q).length + 1) c7_)) W0.heap.size g (.slice (some adH) N cH) h1 vP vo5 vF vD (ps5.set q.toNat (.slice A7 ((rowF t5.fr q).length + 1) c7_)) N ⟨t5.pl, t5.ord, addF t5.fr q n⟩ D) := ⟨hpush⟩
        have HB8 : Aside0 (Below W0.heap.size W (w7.setCell ⟨bF, q.toNat, none⟩ (.slice A7 ((rowF t5.fr q).length + 1) c7_))) := ⟨(HB5.out.trans HB7.out).setCell (p := ⟨bF, q.toNat, none⟩) (by have h_ := HO5.out.rf.lt bF (by rw [HEF.out]; rfl); exact h_.1) _⟩
        clear hpush hHeld c4 kF
        generalize w7.setCell ⟨bF, q.toNat, none⟩ (.slice A7 ((rowF t5.fr q).length + 1) c7_) = w8 at HO8 HB8 ⊢
        go_wp2_with fail
        go_roundg (l.length - (j + 1))
        case measure => have := HJQ.out; have := HLJ.out; omega
        case rel =>
          refine ⟨j + 1, vo5, ps5.set q.toNat (.slice A7 ((rowF t5.fr q).length + 1) c7_), by first | rfl | rw [HJW.out], ⟨by have := HLJ.out; omega, rfl⟩, ⟨by rw [HKS2.out]; exact HO8.out⟩, HB8, ⟨?_⟩⟩
          rw [HKS2.out]
          have e1 : unv (⟨t5.pl, t5.ord, addF t5.fr q n⟩ : Ds) = unv t5 := rfl
          have e2 : pot M (⟨t5.pl, t5.ord, addF t5.fr q n⟩ : Ds) ≤ pot M t5 + 1 := by
            have := tot_set t5.fr q.toNat n
            unfold pot
            rw [e1]
            show tot (addF t5.fr q n) + t5.ord.length + _ ≤ _
            have h_ : tot (addF t5.fr q n) ≤ tot t5.fr + 1 := this
            omega
          have w1_ := HWP.out
          have w2_ := HUj.out
          exact ⟨Nat.le_trans w1_.1 w2_.1, by show pot M (⟨t5.pl, t5.ord, addF t5.fr q n⟩ : Ds) ≤ _; omega⟩
      · have e_ : j = l.length := by have := HJQ.out; omega
        subst e_
        have hjec : decide ((l.length : Int) < (l.length : Int)) = false := decide_eq_false (by omega)
        have hjec2 : decide (l.length < l.length) = false := decide_eq_false hlj
        rw [List.take_length] at HOj HUj
        generalize kids (walkP has k) n l (mark s n) = t at HOj HUj HV
        have c3 := HOj.out.c3
        have fz3 := HOj.out.fz 3
        have HU := Try.underlying23
        have HOL : Aside0 (t.ord.length ≤ 1000000) := ⟨by have h_ := ord_pot (M := M) (s := t); have := HUj.out.2; have := HP1.out; have := HRM.out; omega⟩
        have HBS : Aside0 (W0.heap.size ≤ wr.heap.size) := ⟨by have h_ := HOj.out.gB; have h2_ := blk_lt HOj.out.obj; omega⟩
        clear hlj HJQ
        go_wp2_with (first | ((with_reducible refine gate_builtin (b := .append) (xs := #[.tmp 57, .tmp 59]) rfl ?_); refine print_append_num (w0 := wr) W0.heap.size rfl (.tmp 57) (.tmp 59) 23 3 .i64 8 rfl HU infoI (by decide) vo' t.ord n rfl rfl HOj.out.ro (Below.refl _ _) HBS.out ?hl ?_; (case hl => have h_ := HOL.out; omega); intro v6 w6 ho hb hg hat; have HO6 := Aside0.mk (HOj.out.pushO ho hg hat); rw [List.length_append, List.length_singleton] at ho; obtain ⟨A6, c6_, e6_, _⟩ := own_shape ho; subst e6_; have HB6 := Aside0.mk hb; have hG6 := HOj.out.grownG hg; have fz6 := blk_frozen hG6 3; have d6 := (blk_cell hG6 3).trans rfl; clear ho hb hg hat hG6))
        go_end0
        rw [HV.out]
        exact ⟨rfl, _, ps', HO6.out, (HBj.out.trans HB6.out).setCell (p := ⟨g, 3, none⟩) HOj.out.gB _⟩
end Go.Proofs.Ytoleplbmkdhgeaa.Own
