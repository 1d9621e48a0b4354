/- weak.Check in plain lists: what the printed function answers. -/
import Derived.Test.YtoleplbmkdhgeaaPN1
set_option linter.unusedVariables false
set_option linter.unusedSimpArgs false
namespace Go.Proofs.Ytoleplbmkdhgeaa.Chk
open Go.RowKit Go.Proofs.YtoleplbmkdhgeaaW.PrintWords Go.Proofs.Ytoleplbmkdhgeaa.PN

theorem wrap_up (i : Int) (h0 : -4611686018427387904 ≤ i) (h : i ≤ 4611686018427387904) : wrap64 (i + 1) = i + 1 := by unfold wrap64; omega
def inr (n : Nat) (x : Int) : Bool := decide (0 ≤ x ∧ x < (n : Int))
/-- What weak.Check answers: 2: too large, 3: a number of no thing, 0: a right graph. -/
def checkE (has : List (List Int)) (roots : List Int) : Int :=
  if has.length > 100 ∨ roots.length > 100 then 2 else if has.any (fun l => decide (l.length > 10)) = true then 2 else if (roots :: has).all (fun l => l.all (inr has.length)) = true then 0 else 3
theorem in_f (x : Int) (n : Nat) : weak_in.f x (n : Int) = some (inr n x) := by
  unfold weak_in.f inr
  by_cases h : x ≥ 0
  · rw [if_pos h]; congr 1; simp; omega
  · rw [if_neg h]; congr 1; simp; omega
theorem rdL (l : List (List Int)) (i : Nat) (h : i < l.length) : rd_L2 l (i : Int) = l[i] := by unfold rd_L2; simp [List.getD_eq_getElem?_getD, h]
theorem rdI (l : List Int) (i : Nat) (h : i < l.length) : rd l (i : Int) = l[i] := by unfold rd; simp [List.getD_eq_getElem?_getD, h]
theorem l2_f (n : Nat) (y : List (List Int)) (ylen i : Int) (m : List Int) (hm : m.length ≤ 4611686018427387904) (r : Int) (K : Nat) (hl1 : ∀ k, K ≤ k → weak_Check.l1 k (n : Int) y ylen (wrap64 (i + 1)) = some r) :
    ∀ (d j k : Nat), m.length - j = d → j ≤ m.length → K + d + 1 ≤ k → weak_Check.l2 k (n : Int) y ylen i m (m.length : Int) (j : Int) = some (if (m.drop j).all (inr n) = true then r else 3) := by
  intro d
  induction d with
  | zero =>
    intro j k hd hj hk
    obtain ⟨k, rfl⟩ : ∃ q, k = q + 1 := ⟨k - 1, by omega⟩
    simp only [weak_Check.l2]
    rw [if_neg (by omega), List.drop_eq_nil_of_le (by omega), hl1 k (by omega)]
    rfl
  | succ d ih =>
    intro j k hd hj hk
    obtain ⟨k, rfl⟩ : ∃ q, k = q + 1 := ⟨k - 1, by omega⟩
    have hlt : j < m.length := by omega
    simp only [weak_Check.l2]
    rw [if_pos (by omega), if_pos (by omega), if_pos (by omega), rdI m j hlt, in_f, List.drop_eq_getElem_cons hlt]
    simp only [Option.bind_some, List.all_cons]
    by_cases h : inr n m[j] = true
    · have := ih (j + 1) k (by omega) (by omega) (by omega)
      rw [show ((j + 1 : Nat) : Int) = (j : Int) + 1 from by omega] at this
      rw [if_pos h, wrap_up (j : Int) (by omega) (by omega), this]
      simp only [h, Bool.true_and]
    · rw [if_neg h]
      simp only [Bool.not_eq_true] at h
      simp only [h, Bool.false_and, Bool.false_eq_true, if_false]
/-- How many rounds all numbers take. -/
def size (y : List (List Int)) : Nat := (y.map List.length).sum
theorem l1_f (n : Nat) (y : List (List Int)) (hy : y.length ≤ 4611686018427387904) (hm : ∀ m ∈ y, m.length ≤ 4611686018427387904) :
    ∀ (d i k : Nat), y.length - i = d → i ≤ y.length → size (y.drop i) + 2 * d + 1 ≤ k → weak_Check.l1 k (n : Int) y (y.length : Int) (i : Int) = some (if (y.drop i).all (fun l => l.all (inr n)) = true then 0 else 3) := by
  intro d
  induction d with
  | zero =>
    intro i k hd hi hk
    obtain ⟨k, rfl⟩ : ∃ q, k = q + 1 := ⟨k - 1, by omega⟩
    simp only [weak_Check.l1]
    rw [if_neg (by omega), List.drop_eq_nil_of_le (by omega)]
    rfl
  | succ d ih =>
    intro i k hd hi hk
    obtain ⟨k, rfl⟩ : ∃ q, k = q + 1 := ⟨k - 1, by omega⟩
    have hlt : i < y.length := by omega
    have hsz : size (y.drop i) = y[i].length + size (y.drop (i + 1)) := by unfold size; rw [List.drop_eq_getElem_cons hlt, List.map_cons, List.sum_cons]
    simp only [weak_Check.l1]
    rw [if_pos (by omega), if_pos (by omega), if_pos (by omega), rdL y i hlt]
    have hw := wrap_up (i : Int) (by omega) (by omega)
    have h2 := l2_f n y (y.length : Int) (i : Int) y[i] (hm _ (List.getElem_mem hlt)) (if (y.drop (i + 1)).all (fun l => l.all (inr n)) = true then 0 else 3) (size (y.drop (i + 1)) + 2 * d + 1) (fun k hk => by
      have := ih (i + 1) k (by omega) (by omega) hk
      rw [show ((i + 1 : Nat) : Int) = (i : Int) + 1 from by omega] at this
      rw [hw, this]) y[i].length 0 k (by omega) (by omega) (by omega)
    rw [show ((0 : Nat) : Int) = 0 from rfl] at h2
    rw [h2, List.drop_zero, List.drop_eq_getElem_cons hlt, List.all_cons]
    by_cases h : y[i].all (inr n) = true
    · rw [if_pos h]
      simp only [h, Bool.true_and]
    · rw [if_neg h]
      simp only [Bool.not_eq_true] at h
      simp only [h, Bool.false_and, Bool.false_eq_true, if_false]
theorem l0_f (has : List (List Int)) (roots : List Int) (hy : has.length ≤ 100) (hr : roots.length ≤ 100) :
    ∀ (d i k : Nat), has.length - i = d → i ≤ has.length → d + 1 + (roots.length + (size has + 2 * (has.length + 1) + 1)) ≤ k → (∀ l ∈ has.take i, l.length ≤ 10) →
    weak_Check.l0 k (has.length : Int) has (has.length : Int) (i : Int) has roots = some (if (has.drop i).any (fun l => decide (l.length > 10)) = true then 2 else if (roots :: has).all (fun l => l.all (inr has.length)) = true then 0 else 3) := by
  intro d
  induction d with
  | zero =>
    intro i k hd hi hk hs
    obtain ⟨k, rfl⟩ : ∃ q, k = q + 1 := ⟨k - 1, by omega⟩
    simp only [weak_Check.l0]
    rw [if_neg (by omega), List.drop_eq_nil_of_le (by omega)]
    simp only [Option.bind_some, List.any_nil, Bool.false_eq_true, if_false]
    rw [if_pos (by simp; omega)]
    have hall : ∀ l ∈ has, l.length ≤ 10 := by
      intro l hl
      refine hs l ?_
      rw [List.take_of_length_le (by omega)]
      exact hl
    have := l1_f has.length (roots :: has) (by simp; omega) (by
      intro m hm
      rcases List.mem_cons.1 hm with rfl | hm
      · omega
      · have := hall m hm; omega) (roots :: has).length 0 k (by omega) (by omega) (by
      rw [List.drop_zero]
      have e : size (roots :: has) = roots.length + size has := by simp [size]
      rw [e, List.length_cons]; omega)
    rw [List.drop_zero] at this
    exact this
  | succ d ih =>
    intro i k hd hi hk hs
    obtain ⟨k, rfl⟩ : ∃ q, k = q + 1 := ⟨k - 1, by omega⟩
    have hlt : i < has.length := by omega
    simp only [weak_Check.l0]
    rw [if_pos (by omega), if_pos (by omega), if_pos (by omega), rdL has i hlt, List.drop_eq_getElem_cons hlt, List.any_cons]
    by_cases h : (has[i].length : Int) > 10
    · rw [if_pos h, if_pos (by simp; left; omega)]
    · have := ih (i + 1) k (by omega) (by omega) (by omega) (by
        intro l hl
        rw [List.take_succ_eq_append_getElem hlt] at hl
        rcases List.mem_append.1 hl with hl | hl
        · exact hs l hl
        · rw [List.mem_singleton.1 hl]; omega)
      rw [show ((i + 1 : Nat) : Int) = (i : Int) + 1 from by omega] at this
      rw [if_neg h, wrap_up (i : Int) (by omega) (by omega), this]
      have hf : decide (has[i].length > 10) = false := by simp; omega
      simp only [hf, Bool.false_or]
def checkK (has : List (List Int)) (roots : List Int) : Nat := has.length + 3 + (roots.length + (size has + 2 * (has.length + 1) + 1))
theorem check_f (has : List (List Int)) (roots : List Int) (k : Nat) (hk : checkK has roots ≤ k) : weak_Check.f k has roots = some (checkE has roots) := by
  unfold checkK at hk
  obtain ⟨k, rfl⟩ : ∃ q, k = q + 1 := ⟨k - 1, by omega⟩
  have hj : weak_Check.f (k + 1) has roots = weak_Check.j0 (k + 1) (has.length : Int) (decide (has.length > 100 ∨ roots.length > 100)) has roots := by
    unfold weak_Check.f
    by_cases h : (has.length : Int) > 100
    · rw [if_pos h]; congr 1; symm; simp; left; omega
    · rw [if_neg h]; congr 1; rw [decide_eq_decide]; omega
  rw [hj]
  simp only [weak_Check.j0]
  unfold checkE
  by_cases h : has.length > 100 ∨ roots.length > 100
  · rw [if_pos (by simpa using h), if_pos h]
  · rw [if_neg (by simpa using h), if_neg h]
    have := l0_f has roots (by omega) (by omega) has.length 0 k (by omega) (by omega) (by omega) (by simp)
    rw [show ((0 : Nat) : Int) = 0 from rfl, List.drop_zero] at this
    exact this
theorem check_ok {has : List (List Int)} {roots : List Int} (h : checkE has roots = 0) : has.length ≤ 100 ∧ roots.length ≤ 100 ∧ (∀ l ∈ has, l.length ≤ 10) ∧ (∀ x ∈ roots, 0 ≤ x ∧ x < (has.length : Int)) ∧ ∀ l ∈ has, ∀ x ∈ l, 0 ≤ x ∧ x < (has.length : Int) := by
  unfold checkE at h
  split at h
  · exact absurd h (by decide)
  · split at h
    · exact absurd h (by decide)
    · split at h
      · rename_i h1 h2 h3
        simp only [List.any_eq_true, decide_eq_true_eq, not_exists, not_and] at h2
        simp only [List.all_cons, Bool.and_eq_true, List.all_eq_true, inr, decide_eq_true_eq] at h3
        exact ⟨by omega, by omega, fun l hl => by have := h2 l hl; omega, h3.1, h3.2⟩
      · exact absurd h (by decide)
theorem check_cases (has : List (List Int)) (roots : List Int) : checkE has roots = 0 ∨ checkE has roots = 2 ∨ checkE has roots = 3 := by
  unfold checkE
  split
  · simp
  · split
    · simp
    · split <;> simp
end Go.Proofs.Ytoleplbmkdhgeaa.Chk
