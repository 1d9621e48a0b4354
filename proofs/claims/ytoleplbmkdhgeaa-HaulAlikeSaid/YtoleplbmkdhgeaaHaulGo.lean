/- Package haul: what a collected heap is: plain law. -/
import Derived.Test.YtoleplbmkdhgeaaHaulPl
set_option linter.unusedVariables false
set_option linter.unusedSimpArgs false
namespace Go.Proofs.Ytoleplbmkdhgeaa.Hal
open Go.RowKit Go.Proofs.YtoleplbmkdhgeaaW.PrintWords Go.Proofs.YtoleplbmkdhgeaaW.PrintLast Go.Proofs.YtoleplbmkdhgeaaW.PrintMore Go.Proofs.Ytoleplbmkdhgeaa.PQ Go.Proofs.Ytoleplbmkdhgeaa.Hnd Go.Proofs.Ytoleplbmkdhgeaa.Nb

/-! ### Objects -/
def objW (fr : List Int) : Nat → Nat → List Int × Bool
  | 0, a => ([], a == fr.length)
  | k + 1, a => if a < fr.length then ((a : Int) :: (objW fr k (a + (1 + szN fr (a : Int)))).1, (objW fr k (a + (1 + szN fr (a : Int)))).2) else ([], a == fr.length)
def objF (fr : List Int) : List Int × Bool := objW fr fr.length 0
theorem objects_l {fr : List Int} (hU : ∀ x ∈ fr, U64 x) (hl : fr.length ≤ 2000) : ∀ (k a : Nat) (acc : List Int), fr.length - a ≤ k → a ≤ 5000000000 → acc.length ≤ a →
    haul_objects.l0 (k + 1) fr acc (a : Int) = some (acc ++ (objW fr k a).1, (objW fr k a).2) := by
  intro k
  induction k with
  | zero =>
    intro a acc h1 h2 h3
    unfold haul_objects.l0
    rw [if_neg (by omega)]
    simp only [objW, List.append_nil, Option.some.injEq, Prod.mk.injEq, true_and]
    by_cases h : a = fr.length
    · simp [h]
    · have : ((a : Int) == (fr.length : Int)) = false := by simp; omega
      rw [this]; simp [h]
  | succ k ih =>
    intro a acc h1 h2 h3
    rw [haul_objects.l0]
    by_cases h : a < fr.length
    · rw [if_pos (by omega), if_pos (by omega), if_pos (by omega)]
      have hrd : rd fr (a : Int) = fr.getD a 0 := by unfold rd; simp
      have hx : U64 (fr.getD a 0) := by rw [List.getD_eq_getElem?_getD, List.getElem?_eq_getElem h]; exact hU _ (List.getElem_mem _)
      have hs : haul_long.f (rd fr (a : Int)) = some ((szN fr (a : Int) : Nat) : Int) := by
        rw [hrd]; unfold haul_long.f szN longN
        rw [Int.toNat_natCast, Int.toNat_of_nonneg (by omega)]
      have hsz : szN fr (a : Int) < 4294967296 := by unfold szN longN; omega
      rw [hs, Option.bind_some]
      have e : wrap64 ((a : Int) + wrap64 (1 + ((szN fr (a : Int) : Nat) : Int))) = ((a + (1 + szN fr (a : Int)) : Nat) : Int) := by unfold wrap64; omega
      rw [e, ih _ _ (by omega) (by omega) (by simp; omega)]
      simp only [objW]
      rw [if_pos h]
      simp
    · rw [if_neg (by omega)]
      simp only [objW]
      rw [if_neg h]
      simp only [List.append_nil, Option.some.injEq, Prod.mk.injEq, true_and]
      by_cases h : a = fr.length
      · simp [h]
      · have : ((a : Int) == (fr.length : Int)) = false := by simp; omega
        rw [this]; simp [h]
theorem objects_f {fr : List Int} (hU : ∀ x ∈ fr, U64 x) (hl : fr.length ≤ 2000) : haul_objects.f (fr.length + 1) fr = some (objF fr) := by
  unfold haul_objects.f objF
  rw [show (0 : Int) = ((0 : Nat) : Int) from rfl, objects_l hU hl fr.length 0 [] (by omega) (by omega) (by simp)]
  simp
theorem objects_k {fr : List Int} (hU : ∀ x ∈ fr, U64 x) (hl : fr.length ≤ 2000) (k : Nat) (hk : 2001 ≤ k) : haul_objects.f k fr = some (objF fr) := by
  have hm : ∀ k, LeO (haul_objects.f k fr) (haul_objects.f (k + 1) fr) := fun k => haul_objects.mono_l k _ _ _
  have h0 := objects_f hU hl
  have : ∀ d, haul_objects.f (fr.length + 1 + d) fr = some (objF fr) := by
    intro d
    induction d with
    | zero => exact h0
    | succ d ih => exact hm _ _ ih
  have h_ := this (k - (fr.length + 1))
  rwa [show fr.length + 1 + (k - (fr.length + 1)) = k by omega] at h_
theorem objW_mem {fr : List Int} : ∀ (k a : Nat), ∀ x ∈ (objW fr k a).1, 0 ≤ x ∧ x < (fr.length : Int) := by
  intro k
  induction k with
  | zero => intro a x hx; simp [objW] at hx
  | succ k ih =>
    intro a x hx
    simp only [objW] at hx
    split at hx
    · rcases List.mem_cons.1 hx with h | h
      · subst h; omega
      · exact ih _ x h
    · cases hx
theorem objW_len {fr : List Int} : ∀ (k a : Nat), (objW fr k a).1.length ≤ k := by
  intro k
  induction k with
  | zero => intro a; simp [objW]
  | succ k ih =>
    intro a
    simp only [objW]
    split
    · have := ih (a + (1 + szN fr (a : Int))); simp; omega
    · simp
/-- Objects one behind the other. -/
def Cov (fr : List Int) (a : Nat) (os : List Int) : Prop := mvOf fr a os = os.map (fun p => (⟨p, p⟩ : Mv)) ∧ a + offs fr os = fr.length
theorem objW_cov {fr : List Int} : ∀ (k a : Nat), (objW fr k a).2 = true → fr.length - a ≤ k → Cov fr a (objW fr k a).1 := by
  intro k
  induction k with
  | zero =>
    intro a h1 h2
    simp only [objW] at h1 ⊢
    exact ⟨rfl, by simp at h1; simp [offs, h1]⟩
  | succ k ih =>
    intro a h1 h2
    simp only [objW] at h1 ⊢
    by_cases h : a < fr.length
    · rw [if_pos h] at h1 ⊢
      obtain ⟨c1, c2⟩ := ih (a + (1 + szN fr (a : Int))) h1 (by omega)
      refine ⟨?_, ?_⟩
      · simp only [mvOf, List.map_cons, c1]
      · rw [offs_cons]; omega
    · rw [if_neg h] at h1 ⊢
      exact ⟨rfl, by simp at h1; simp [offs, h1]⟩
theorem cov_objW {fr : List Int} : ∀ (os : List Int) (k a : Nat), Cov fr a os → fr.length - a ≤ k → objW fr k a = (os, true) := by
  intro os
  induction os with
  | nil =>
    intro k a h hk
    have ha : a = fr.length := by have := h.2; simpa [offs] using this
    cases k with
    | zero => simp [objW, ha]
    | succ k => simp [objW, ha]
  | cons p os ih =>
    intro k a h hk
    obtain ⟨h1, h2⟩ := h
    simp only [mvOf, List.map_cons, List.cons.injEq] at h1
    obtain ⟨e, h3⟩ := h1
    injection e with e1 e2
    subst e1
    rw [offs_cons] at h2
    cases k with
    | zero => omega
    | succ k =>
      simp only [objW]
      rw [if_pos (by omega), ih k (a + (1 + szN fr (a : Int))) ⟨h3, by omega⟩ (by omega)]
theorem cov_mem {fr os : List Int} {a : Nat} {p : Int} (h : Cov fr a os) (hp : p ∈ os) : (⟨p, p⟩ : Mv) ∈ mvOf fr a os := by
  rw [h.1]; exact List.mem_map.2 ⟨p, hp, rfl⟩
theorem cov_nodup {fr : List Int} : ∀ (os : List Int) (a : Nat), Cov fr a os → os.Nodup := by
  intro os
  induction os with
  | nil => intro a h; exact List.nodup_nil
  | cons p os ih =>
    intro a h
    obtain ⟨h1, h2⟩ := h
    simp only [mvOf, List.map_cons, List.cons.injEq] at h1
    obtain ⟨e, h3⟩ := h1
    injection e with e1 e2
    subst e1
    rw [offs_cons] at h2
    have hc : Cov fr (a + (1 + szN fr (a : Int))) os := ⟨h3, by omega⟩
    refine List.nodup_cons.2 ⟨fun hm => ?_, ih _ hc⟩
    have := (mv_mem (cov_mem hc hm)).2.1
    omega
theorem mv_cover {fr : List Int} : ∀ (fs : List Int) (a i : Nat), a ≤ i → i < a + offs fr fs → ∃ t p : Int, (⟨t, p⟩ : Mv) ∈ mvOf fr a fs ∧ (t = (i : Int) ∨ ∃ j : Nat, j < szN fr p ∧ (i : Int) = t + 1 + (j : Int)) := by
  intro fs
  induction fs with
  | nil => intro a i h1 h2; simp [offs] at h2; omega
  | cons p fs ih =>
    intro a i h1 h2
    rw [offs_cons] at h2
    by_cases hi : i < a + (1 + szN fr p)
    · refine ⟨(a : Int), p, by simp [mvOf], ?_⟩
      by_cases he : i = a
      · exact .inl (by rw [he])
      · exact .inr ⟨i - a - 1, by omega, by omega⟩
    · obtain ⟨t, q, hm, h⟩ := ih (a + (1 + szN fr p)) i (by omega) (by omega)
      exact ⟨t, q, by simp only [mvOf]; exact List.mem_cons_of_mem _ hm, h⟩
theorem mem_iff {l : List Int} {x : Int} : mem l x = true ↔ x ∈ l := by unfold mem; simp
/-! ### A heap that is right -/
theorem chk_ok {fr rs objs : List Int} {is : Bool} (h : chkE fr rs objs is = 0) : fr.length ≤ 2000 ∧ rs.length ≤ 100 ∧ is = true ∧ (∀ i, i < fr.length → wordOk objs fr i = true) ∧ ∀ y ∈ rs, rightB (mem objs) y = true := by
  unfold chkE at h
  split at h
  · cases h
  · rename_i h1
    split at h
    · cases h
    · rename_i h2
      split at h
      · rename_i h3
        simp only [Bool.and_eq_true] at h3
        refine ⟨by omega, by omega, by simpa using h2, fun i hi => ?_, fun y hy => ?_⟩
        · have := h3.1; unfold wordsOk at this; exact List.all_eq_true.1 this i (List.mem_range.2 hi)
        · exact List.all_eq_true.1 h3.2 y hy
      · cases h
theorem chk_of {fr rs objs : List Int} (h1 : fr.length ≤ 2000) (h2 : rs.length ≤ 100) (h3 : ∀ i, i < fr.length → wordOk objs fr i = true) (h4 : ∀ y ∈ rs, rightB (mem objs) y = true) : chkE fr rs objs true = 0 := by
  unfold chkE
  rw [if_neg (by omega), if_neg (by decide), if_pos]
  simp only [Bool.and_eq_true]
  exact ⟨List.all_eq_true.2 (fun i hi => h3 i (List.mem_range.1 hi)), List.all_eq_true.2 h4⟩
/-- All that a checked heap is. -/
structure Heap (fr rs objs : List Int) : Prop where
  ok : HOk fr objs
  cov : Cov fr 0 objs
  len : fr.length ≤ 2000
  rlen : rs.length ≤ 100
  val : ∀ p ∈ objs, ∀ j, j < szN fr p → rightB (mem objs) (fr.getD (p.toNat + 1 + j) 0) = true
  rval : ∀ y ∈ rs, rightB (mem objs) y = true
  chk : chkE fr rs objs true = 0
theorem right_ref {objs : List Int} {y : Int} (h : rightB (mem objs) y = true) : isRef y = true → plN y ∈ objs := by
  intro hr
  unfold rightB at h
  rw [hr] at h
  simp only [Bool.not_true, Bool.false_or, Bool.and_eq_true] at h
  exact mem_iff.1 h.2
theorem heap_of {fr rs : List Int} (h : chkE fr rs (objF fr).1 (objF fr).2 = 0) : (objF fr).2 = true ∧ Heap fr rs (objF fr).1 := by
  obtain ⟨h1, h2, h3, h4, h5⟩ := chk_ok h
  have hc : Cov fr 0 (objF fr).1 := objW_cov fr.length 0 h3 (by omega)
  have hfit : ∀ p ∈ (objF fr).1, 0 ≤ p ∧ p.toNat < fr.length ∧ p.toNat + 1 + szN fr p ≤ fr.length := by
    intro p hp
    obtain ⟨a1, a2, a3⟩ := mv_mem (cov_mem hc hp)
    have := hc.2
    refine ⟨by omega, by omega, by omega⟩
  have hval : ∀ p ∈ (objF fr).1, ∀ j, j < szN fr p → rightB (mem (objF fr).1) (fr.getD (p.toNat + 1 + j) 0) = true := by
    intro p hp j hj
    have hf := hfit p hp
    have hw := h4 (p.toNat + 1 + j) (by omega)
    unfold wordOk at hw
    rcases Bool.or_eq_true_iff.1 hw with h_ | h_
    · exfalso
      have hm := mem_iff.1 h_
      have := mv_apart (cov_mem hc hp) (cov_mem hc hm)
      have hs : (0 : Nat) ≤ szN fr (((p.toNat + 1 + j : Nat)) : Int) := Nat.zero_le _
      rcases this with ⟨e, _⟩ | e | e <;> omega
    · exact h_
  exact ⟨h3, ⟨cov_nodup _ 0 hc, hfit, by have := hc.2; omega, fun p hp j hj => right_ref (hval p hp j hj)⟩, hc, h1, h2, hval, h5, by rw [h3] at h; exact h⟩
/-! ### References as words -/
theorem refW_is {u : Int} (h0 : 0 ≤ u) (h1 : u ≤ 4294967295) : isRef (refW u) = true ∧ plN (refW u) = u ∧ U64 (refW u) ∧ (ub (refW u)).2.2 = 0 := by
  have hb : (bx 5 u).2 = 0 := (bx_err 5 u).2 ⟨by decide, by decide, .inr ⟨by simp [lo]; omega, by simp [hi]; omega⟩⟩
  have hr := bx_range hb
  rcases ub_bx hb (by omega) with h | ⟨h, _⟩
  · unfold isRef plN refW
    rw [h]
    exact ⟨rfl, rfl, hr, rfl⟩
  · cases h
theorem refW_pl {y : Int} (hy : U64 y) (hr : isRef y = true) : refW (plN y) = y := by
  unfold isRef at hr
  simp only [Bool.and_eq_true, decide_eq_true_eq, beq_iff_eq] at hr
  have := bx_ub y hy.1 hy.2 hr.1
  rw [hr.2] at this
  unfold refW plN
  rw [this]
end Go.Proofs.Ytoleplbmkdhgeaa.Hal
