/- Package owns: what goes when one thing goes, in plain words. -/
import Derived.Test.YtoleplbmkdhgeaaOwnWo
import Derived.Test.YtoleplbmkdhgeaaFromPure
import Derived.Test.YtoleplbmkdhgeaaHasPure
import Derived.Test.YtoleplbmkdhgeaaPN3
set_option linter.unusedVariables false
set_option linter.unusedSimpArgs false
namespace Go.Proofs.Ytoleplbmkdhgeaa.Own
open Go.RowKit Go.Proofs.YtoleplbmkdhgeaaW.PrintWords Go.Proofs.YtoleplbmkdhgeaaW.PrintLast Go.Proofs.YtoleplbmkdhgeaaW.PrintMore Go.Proofs.Ytoleplbmkdhgeaa.PN Go.Proofs.Ytoleplbmkdhgeaa.Hnd Go.Lib Go.Proofs.Ytoleplbmkdhgeaa.Chk Go.Proofs.Ytoleplbmkdhgeaa.Rch

/-! ### Rising, Has, Eq -/
def rise (l : List Bool) : List Int := ((List.range l.length).filter fun i => l.getD i false).map fun (i : Nat) => (i : Int)
def riseFrom (l : List Bool) (i : Nat) : List Int := (((List.range l.length).drop i).filter fun i => l.getD i false).map fun (i : Nat) => (i : Int)
theorem rdB (l : List Bool) (i : Nat) (h : i < l.length) : rdOf false l (i : Int) = l.getD i false := by unfold rdOf; simp
theorem rising_l0 (l : List Bool) (hl : l.length ≤ 1000000) : ∀ (d i k : Nat) (acc : List Int), l.length - i = d → i ≤ l.length → acc.length ≤ i → d < k → weak_Rising.l0 k acc l (l.length : Int) (i : Int) = some (acc ++ riseFrom l i) := by
  intro d
  induction d with
  | zero =>
    intro i k acc hd hi ha hk
    obtain ⟨k, rfl⟩ : ∃ q, k = q + 1 := ⟨k - 1, by omega⟩
    simp only [weak_Rising.l0]
    rw [if_neg (by omega)]
    unfold riseFrom
    rw [List.drop_eq_nil_of_le (by simp; omega)]
    simp
  | succ d ih =>
    intro i k acc hd hi ha hk
    obtain ⟨k, rfl⟩ : ∃ q, k = q + 1 := ⟨k - 1, by omega⟩
    have hlt : i < l.length := by omega
    have hdrop : (List.range l.length).drop i = i :: (List.range l.length).drop (i + 1) := by
      rw [List.drop_eq_getElem_cons (by simpa using hlt)]; simp
    have e := wrap_up (i : Int) (by omega) (by omega)
    simp only [weak_Rising.l0]
    rw [if_pos (by omega), if_pos (by omega), if_pos (by omega), rdB l i hlt, e]
    unfold riseFrom
    rw [hdrop, List.filter_cons]
    by_cases h : l.getD i false = true
    · have := ih (i + 1) k (acc ++ [(i : Int)]) (by omega) (by omega) (by simp; omega) (by omega)
      rw [show ((i + 1 : Nat) : Int) = (i : Int) + 1 from by omega] at this
      rw [if_pos h, if_pos h, if_pos (by omega), this, List.append_assoc]
      rfl
    · have := ih (i + 1) k acc (by omega) (by omega) (by omega) (by omega)
      rw [show ((i + 1 : Nat) : Int) = (i : Int) + 1 from by omega] at this
      rw [if_neg h, if_neg h, this]
      rfl
theorem rising_f (l : List Bool) (hl : l.length ≤ 1000000) (k : Nat) (hk : l.length < k) : weak_Rising.f k l = some (rise l) := by
  unfold weak_Rising.f
  have := rising_l0 l hl l.length 0 k [] (by omega) (by omega) (by simp) hk
  rw [show ((0 : Nat) : Int) = 0 from rfl] at this
  rw [this]
  rfl
theorem mem_rise {l : List Bool} {x : Int} : x ∈ rise l ↔ (0 ≤ x ∧ x < (l.length : Int)) ∧ l.getD x.toNat false = true := by
  unfold rise
  simp only [List.mem_map, List.mem_filter, List.mem_range]
  constructor
  · rintro ⟨i, ⟨h1, h2⟩, rfl⟩
    exact ⟨by omega, by simpa using h2⟩
  · rintro ⟨h1, h2⟩
    exact ⟨x.toNat, ⟨by omega, h2⟩, by omega⟩
theorem rise_length (l : List Bool) : (rise l).length ≤ l.length := by
  unfold rise
  rw [List.length_map]
  exact Nat.le_trans (List.length_filter_le _ _) (by simp)def needE (has : List (List Int)) (roots : List Int) : List Int := if checkE has roots = 0 then rise (fromL has roots) else []
theorem need_f (has : List (List Int)) (roots : List Int) (k : Nat) (hk : checkK has roots + 101 ≤ k) : weak_Needed.f k has roots = some (needE has roots, checkE has roots) := by
  unfold weak_Needed.f needE
  rw [check_f has roots k (by omega)]
  simp only [Option.bind_some]
  by_cases h : checkE has roots = 0
  · rw [if_pos h, if_pos h]
    obtain ⟨h1, h2, h3, h4, h5⟩ := check_ok h
    unfold weak_From.f
    rw [if_pos (okF_iff.2 ⟨by omega, fun r hr x hx => h5 r hr x hx, h4⟩)]
    simp only [Option.bind_some]
    rw [rising_f _ (by rw [fromL_length]; omega) k (by rw [fromL_length]; omega), h]
    rfl
  · rw [if_neg h, if_neg h]

theorem check_to {has : List (List Int)} {roots : List Int} (h1 : has.length ≤ 100) (h2 : roots.length ≤ 100) (h3 : ∀ l ∈ has, l.length ≤ 10) (h4 : ∀ x ∈ roots, 0 ≤ x ∧ x < (has.length : Int)) (h5 : ∀ l ∈ has, ∀ x ∈ l, 0 ≤ x ∧ x < (has.length : Int)) : checkE has roots = 0 := by
  unfold checkE
  rw [if_neg (by omega), if_neg, if_pos]
  · simp only [List.all_cons, Bool.and_eq_true, List.all_eq_true, inr, decide_eq_true_eq]
    exact ⟨h4, h5⟩
  · simp only [List.any_eq_true, decide_eq_true_eq, not_exists, not_and]
    intro l hl
    have := h3 l hl
    omega
theorem mem_strip {n x : Int} {l : List Int} : x ∈ stripL n l ↔ x ∈ l ∧ x ≠ n := by unfold stripL; simp
def outs (n : Int) (has : List (List Int)) : List (List Int) := outTo n has has.length
theorem outs_len (n : Int) (has : List (List Int)) : (outs n has).length = has.length := outTo_len _ _ _
theorem outs_at (n : Int) (has : List (List Int)) {k : Nat} (h : k < has.length) : (outs n has).getD k [] = if (k : Int) = n then [] else stripL n (has.getD k []) := by
  unfold outs outTo
  rw [List.getD_eq_getElem?_getD, List.getElem?_map, List.getElem?_range h]
  rfl
theorem outs_row (n : Int) (has : List (List Int)) {p k : Int} (h0 : 0 ≤ p) (h1 : p < (has.length : Int)) : k ∈ (outs n has).getD p.toNat [] ↔ p ≠ n ∧ k ≠ n ∧ k ∈ has.getD p.toNat [] := by
  rw [outs_at n has (by omega), Int.toNat_of_nonneg h0]
  by_cases h : p = n
  · rw [if_pos h]; simp [h]
  · rw [if_neg h, mem_strip]
    exact ⟨fun q => ⟨h, q.2, q.1⟩, fun q => ⟨q.2.2, q.2.1⟩⟩
theorem outs_mem {n : Int} {has : List (List Int)} {l : List Int} (h : l ∈ outs n has) : l = [] ∨ ∃ m ∈ has, l = stripL n m := by
  unfold outs outTo at h
  obtain ⟨k, hk, rfl⟩ := List.mem_map.1 h
  rw [List.mem_range] at hk
  unfold outAt
  split
  · exact .inl rfl
  · exact .inr ⟨_, by rw [List.getD_eq_getElem?_getD, List.getElem?_eq_getElem hk]; exact List.getElem_mem hk, rfl⟩
theorem outs_ok {has : List (List Int)} {roots : List Int} {n : Int} (h : checkE has roots = 0) : checkE (outs n has) (stripL n roots) = 0 := by
  obtain ⟨h1, h2, h3, h4, h5⟩ := check_ok h
  refine check_to (by rw [outs_len]; exact h1) (Nat.le_trans (strip_len _ _) h2) (fun l hl => ?_) (fun x hx => by rw [outs_len]; exact h4 x (mem_strip.1 hx).1) (fun l hl x hx => ?_)
  · rcases outs_mem hl with rfl | ⟨m, hm, rfl⟩
    · simp
    · exact Nat.le_trans (strip_len _ _) (h3 m hm)
  · rw [outs_len]
    rcases outs_mem hl with rfl | ⟨m, hm, rfl⟩
    · exact absurd hx (by simp)
    · exact h5 m hm x (mem_strip.1 hx).1
/-- Reached, by a way. -/
theorem lf_pth {has : List (List Int)} {roots : List Int} (hh : ∀ l ∈ has, InR has.length l) (hr : InR has.length roots) {x : Int} : Lf has roots x ↔ ∃ l, Pth (rootR roots) (edgeR has) (x :: l) := by
  constructor
  · intro h
    induction h with
    | root h => exact ⟨[], .root h⟩
    | has h hk ih =>
      obtain ⟨l, hl⟩ := ih
      obtain ⟨q1, q2⟩ := h.range hh hr
      exact ⟨_, .step hl ⟨q1, q2, hk⟩⟩
  · rintro ⟨l, hl⟩
    have key : ∀ p, Pth (rootR roots) (edgeR has) p → ∀ y t, p = y :: t → Lf has roots y := by
      intro p hp
      induction hp with
      | root h => intro y t e; injection e with e1 e2; subst e1; exact .root h
      | step h he ih => intro y t e; injection e with e1 e2; subst e1; exact .has (ih _ _ rfl) he.2.2
    exact key _ hl _ _ rfl
/-- Reached without it, by a way without it. -/
theorem lf_out {has : List (List Int)} {roots : List Int} (hh : ∀ l ∈ has, InR has.length l) (hr : InR has.length roots) {n x : Int} : Lf (outs n has) (stripL n roots) x ↔ ∃ l, Pth (rootR roots) (edgeR has) (x :: l) ∧ n ∉ x :: l := by
  constructor
  · intro h
    induction h with
    | root h =>
      obtain ⟨h1, h2⟩ := mem_strip.1 h
      exact ⟨[], .root h1, by simpa using fun e => h2 e.symm⟩
    | has h hk ih =>
      obtain ⟨l, hl, hn⟩ := ih
      obtain ⟨q1, q2⟩ := ((lf_pth hh hr).2 ⟨_, hl⟩).range hh hr
      obtain ⟨k1, k2, k3⟩ := (outs_row n has q1 q2).1 hk
      refine ⟨_, .step hl ⟨q1, q2, k3⟩, fun hm => ?_⟩
      rcases List.mem_cons.1 hm with e | e
      · exact k2 e.symm
      · exact hn e
  · rintro ⟨l, hl, hn⟩
    have key : ∀ p, Pth (rootR roots) (edgeR has) p → n ∉ p → ∀ y t, p = y :: t → Lf (outs n has) (stripL n roots) y := by
      intro p hp
      induction hp with
      | root h => intro hn y t e; injection e with e1 e2; subst e1; exact .root (mem_strip.2 ⟨h, fun e => hn (by rw [e]; simp)⟩)
      | step h he ih =>
        intro hn y t e
        injection e with e1 e2
        subst e1
        have h1 := ih (fun q => hn (List.mem_cons_of_mem _ q)) _ _ rfl
        exact .has h1 ((outs_row n has he.1 he.2.1).2 ⟨fun e => hn (by rw [e]; simp), fun e => hn (by rw [e]; simp), he.2.2⟩)
    exact key _ hl hn _ _ rfl
theorem pth_tail {root : Int → Prop} {edge : Int → Int → Prop} {p : List Int} (h : Pth root edge p) : ∀ y ∈ p, ∃ t, Pth root edge (y :: t) := by
  induction h with
  | root h => intro y hy; rw [List.mem_singleton] at hy; subst hy; exact ⟨[], .root h⟩
  | step h he ih =>
    intro y hy
    rcases List.mem_cons.1 hy with e | e
    · subst e; exact ⟨_, .step h he⟩
    · exact ih y e
section
variable {has : List (List Int)} {roots : List Int} {D : List Int} {n : Int} (ck : checkE has roots = 0) (hD : DoneG has roots D)
include ck
theorem in_ok : (∀ l ∈ has, InR has.length l) ∧ InR has.length roots := by
  obtain ⟨h1, h2, h3, h4, h5⟩ := check_ok ck
  exact ⟨fun l hl x hx => h5 l hl x hx, h4⟩
theorem mem_rpo {x : Int} : x ∈ rpoL has roots ↔ Lf has roots x := by
  obtain ⟨hh, hr⟩ := in_ok ck
  have R := rp_ok (gr_of ck).1
  constructor
  · intro h
    obtain ⟨l, hl, _⟩ := R.pth x h
    exact (lf_pth hh hr).2 ⟨l, hl⟩
  · intro h
    induction h with
    | root h => exact R.rt _ h
    | has h hk ih =>
      obtain ⟨q1, q2⟩ := h.range hh hr
      exact R.clo _ ih _ ⟨q1, q2, hk⟩
include hD
theorem mem_keeps {x : Int} : x ∈ keepTo (rpoL has roots) (fnD D) n has.length ↔ Lf has roots x ∧ ¬ Lf (outs n has) (stripL n roots) x := by
  obtain ⟨hh, hr⟩ := in_ok ck
  rw [mem_keepTo, mem_rpo ck]
  constructor
  · rintro ⟨_, h2, h3⟩
    refine ⟨h2, fun h4 => ?_⟩
    have hd := (hD.dom x ((mem_rpo ck).2 h2) n).1 h3
    obtain ⟨l, hl, hn⟩ := (lf_out hh hr).1 h4
    exact hn (hd l hl)
  · rintro ⟨h2, h3⟩
    refine ⟨h2.range hh hr, h2, (hD.dom x ((mem_rpo ck).2 h2) n).2 fun l hl => ?_⟩
    exact Classical.byContradiction fun q => h3 ((lf_out hh hr).2 ⟨l, hl, q⟩)
omit hD
theorem mem_need {x : Int} : x ∈ needE has roots ↔ Lf has roots x := by
  obtain ⟨hh, hr⟩ := in_ok ck
  unfold needE
  rw [if_pos ck, mem_rise, fromL_length]
  constructor
  · rintro ⟨h1, h2⟩
    exact ((fromL_iff hh hr).2 x h1).1 h2
  · intro h
    exact ⟨h.range hh hr, ((fromL_iff hh hr).2 x (h.range hh hr)).2 h⟩
theorem mem_without {x : Int} : x ∈ needE (outs n has) (stripL n roots) ↔ Lf (outs n has) (stripL n roots) x := mem_need (outs_ok ck)
theorem out_in {x : Int} (h : Lf (outs n has) (stripL n roots) x) : Lf has roots x := by
  obtain ⟨hh, hr⟩ := in_ok ck
  obtain ⟨l, hl, _⟩ := (lf_out hh hr).1 h
  exact (lf_pth hh hr).2 ⟨l, hl⟩
theorem self_out (h : Lf (outs n has) (stripL n roots) n) : False := by
  obtain ⟨hh, hr⟩ := in_ok ck
  obtain ⟨l, hl, hn⟩ := (lf_out hh hr).1 h
  exact hn (by simp)
include hD
theorem keeps_none : keepTo (rpoL has roots) (fnD D) n has.length = [] ↔ n ∉ needE has roots := by
  obtain ⟨hh, hr⟩ := in_ok ck
  rw [mem_need ck]
  constructor
  · intro h h2
    have := (mem_keeps ck hD (n := n) (x := n)).2 ⟨h2, self_out ck⟩
    rw [h] at this
    exact absurd this (by simp)
  · intro h
    rw [List.eq_nil_iff_forall_not_mem]
    intro x hx
    obtain ⟨h1, h2⟩ := (mem_keeps ck hD).1 hx
    obtain ⟨l, hl⟩ := (lf_pth hh hr).1 h1
    by_cases q : n ∈ x :: l
    · obtain ⟨t, ht⟩ := pth_tail hl n q
      exact h ((lf_pth hh hr).2 ⟨t, ht⟩)
    · exact h2 ((lf_out hh hr).2 ⟨l, hl, q⟩)
theorem either {k : Int} (hk : k ∈ needE has roots) : (k ∈ keepTo (rpoL has roots) (fnD D) n has.length ↔ k ∉ needE (outs n has) (stripL n roots)) := by
  rw [mem_keeps ck hD, mem_without ck]
  exact ⟨fun h => h.2, fun h => ⟨(mem_need ck).1 hk, h⟩⟩
omit ck hD
theorem count_two (p q r : Nat → Bool) : ∀ m : Nat, (∀ i < m, (r i = true ↔ p i = true ∨ q i = true) ∧ ¬ (p i = true ∧ q i = true)) → ((List.range m).filter p).length + ((List.range m).filter q).length = ((List.range m).filter r).length := by
  intro m
  induction m with
  | zero => intro _; rfl
  | succ m ih =>
    intro h
    have h1 := ih (fun i hi => h i (by omega))
    obtain ⟨h2, h3⟩ := h m (by omega)
    rw [List.range_succ, List.filter_append, List.filter_append, List.filter_append, List.length_append, List.length_append, List.length_append]
    cases hp : p m <;> cases hq : q m <;> cases hr : r m <;> simp [hp, hq, hr] at h2 h3 ⊢ <;> omega
include ck hD
theorem counts : (keepTo (rpoL has roots) (fnD D) n has.length).length + (needE (outs n has) (stripL n roots)).length = (needE has roots).length := by
  obtain ⟨hh, hr⟩ := in_ok ck
  have c2 := outs_ok (n := n) ck
  have e1 : needE has roots = rise (fromL has roots) := by unfold needE; rw [if_pos ck]
  have e2 : needE (outs n has) (stripL n roots) = rise (fromL (outs n has) (stripL n roots)) := by unfold needE; rw [if_pos c2]
  rw [e1, e2]
  unfold rise keepTo
  rw [List.length_map, List.length_map, List.length_map, fromL_length, fromL_length, outs_len]
  obtain ⟨ih, ir⟩ := in_ok c2
  classical
  refine count_two _ _ _ _ fun i hi => ?_
  have a1 := ((fromL_iff hh hr).2 (i : Int) (by omega))
  have a2 := ((fromL_iff ih ir).2 (i : Int) (by rw [outs_len]; omega))
  have a3 := mem_keeps ck hD (n := n) (x := (i : Int))
  rw [mem_keepTo] at a3
  rw [Int.toNat_natCast] at a1 a2
  rw [decide_eq_true_eq]
  have a4 : ((i : Int) ∈ rpoL has roots ∧ Up (fnD D) (i : Int) n) ↔ Lf has roots (i : Int) ∧ ¬ Lf (outs n has) (stripL n roots) (i : Int) := ⟨fun h => a3.1 ⟨by omega, h⟩, fun h => (a3.2 h).2⟩
  rw [a1, a2, a4]
  have a5 : Lf (outs n has) (stripL n roots) (i : Int) → Lf has roots (i : Int) := out_in ck
  constructor
  · constructor
    · intro h
      by_cases q : Lf (outs n has) (stripL n roots) (i : Int)
      · exact .inr q
      · exact .inl ⟨h, q⟩
    · rintro (h | h)
      · exact h.1
      · exact a5 h
  · rintro ⟨h, h2⟩
    exact h.2 h2
end
end Go.Proofs.Ytoleplbmkdhgeaa.Own
