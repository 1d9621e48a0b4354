/- Package ends, in plain words: what is due, and in which rounds. -/
import Derived.Test.YtnimidkeoocchaaFromPure
import Derived.Test.YtnimidkeoocchaaCheckPure
import Derived.Lib.SlicesCompact
import Derived.Test.YtnimidkeoocchaaPE3
import Derived.Test.YtnimidkeoocchaaPE4
import Derived.Test.YtnimidkeoocchaaPE4
set_option linter.unusedVariables false
set_option linter.unusedSimpArgs false
namespace Go.Proofs.Ytnimidkeoocchaa.End
open Go.RowKit Go.Proofs.YtnimidkeoocchaaW.PrintWords Go.Proofs.YtnimidkeoocchaaW.PrintLast Go.Proofs.YtnimidkeoocchaaW.PrintMore Go.Proofs.Ytnimidkeoocchaa.PE Go.Proofs.Ytnimidkeoocchaa.Rch Go.Proofs.Ytnimidkeoocchaa.Chk

/-! ### Rising, Has, Eq -/
def rise (l : List Bool) : List Int := ((List.range l.length).filter fun i => l.getD i false).map fun (i : Nat) => (i : Int)
def riseFrom (l : List Bool) (i : Nat) : List Int := (((List.range l.length).drop i).filter fun i => l.getD i false).map fun (i : Nat) => (i : Int)
theorem rdB (l : List Bool) (i : Nat) (h : i < l.length) : rdOf false l (i : Int) = l.getD i false := by unfold rdOf; simp
theorem rising_l0 (l : List Bool) (hl : l.length ≤ 1000000) : ∀ (d i k : Nat) (acc : List Int), l.length - i = d → i ≤ l.length → acc.length ≤ i → d < k → weak_Rising.l0 k acc l (l.length : Int) (i : Int) = some (acc ++ riseFrom l i) := by
  intro d
  induction d with
  | zero =>
    intro i k acc hd hi ha hk
    obtain ⟨k, rfl⟩ : ∃ q, k = q + 1 := ⟨k - 1, by omega⟩
    simp only [weak_Rising.l0]
    rw [if_neg (by omega)]
    unfold riseFrom
    rw [List.drop_eq_nil_of_le (by simp; omega)]
    simp
  | succ d ih =>
    intro i k acc hd hi ha hk
    obtain ⟨k, rfl⟩ : ∃ q, k = q + 1 := ⟨k - 1, by omega⟩
    have hlt : i < l.length := by omega
    have hdrop : (List.range l.length).drop i = i :: (List.range l.length).drop (i + 1) := by
      rw [List.drop_eq_getElem_cons (by simpa using hlt)]; simp
    have e := wrap_up (i : Int) (by omega) (by omega)
    simp only [weak_Rising.l0]
    rw [if_pos (by omega), if_pos (by omega), if_pos (by omega), rdB l i hlt, e]
    unfold riseFrom
    rw [hdrop, List.filter_cons]
    by_cases h : l.getD i false = true
    · have := ih (i + 1) k (acc ++ [(i : Int)]) (by omega) (by omega) (by simp; omega) (by omega)
      rw [show ((i + 1 : Nat) : Int) = (i : Int) + 1 from by omega] at this
      rw [if_pos h, if_pos h, if_pos (by omega), this, List.append_assoc]
      rfl
    · have := ih (i + 1) k acc (by omega) (by omega) (by omega) (by omega)
      rw [show ((i + 1 : Nat) : Int) = (i : Int) + 1 from by omega] at this
      rw [if_neg h, if_neg h, this]
      rfl
theorem rising_f (l : List Bool) (hl : l.length ≤ 1000000) (k : Nat) (hk : l.length < k) : weak_Rising.f k l = some (rise l) := by
  unfold weak_Rising.f
  have := rising_l0 l hl l.length 0 k [] (by omega) (by omega) (by simp) hk
  rw [show ((0 : Nat) : Int) = 0 from rfl] at this
  rw [this]
  rfl
theorem mem_rise {l : List Bool} {x : Int} : x ∈ rise l ↔ (0 ≤ x ∧ x < (l.length : Int)) ∧ l.getD x.toNat false = true := by
  unfold rise
  simp only [List.mem_map, List.mem_filter, List.mem_range]
  constructor
  · rintro ⟨i, ⟨h1, h2⟩, rfl⟩
    exact ⟨by omega, by simpa using h2⟩
  · rintro ⟨h1, h2⟩
    exact ⟨x.toNat, ⟨by omega, h2⟩, by omega⟩
theorem rise_length (l : List Bool) : (rise l).length ≤ l.length := by
  unfold rise
  rw [List.length_map]
  exact Nat.le_trans (List.length_filter_le _ _) (by simp)
theorem has_l0 (l : List Int) (x : Int) (hl : l.length ≤ 1000000) : ∀ (d i k : Nat), l.length - i = d → i ≤ l.length → d < k → backstitchref3_Has_int.l0 k x l (l.length : Int) (i : Int) = some (decide (x ∈ l.drop i)) := by
  intro d
  induction d with
  | zero =>
    intro i k hd hi hk
    obtain ⟨k, rfl⟩ : ∃ q, k = q + 1 := ⟨k - 1, by omega⟩
    simp only [backstitchref3_Has_int.l0]
    rw [if_neg (by omega), List.drop_eq_nil_of_le (by omega)]
    simp
  | succ d ih =>
    intro i k hd hi hk
    obtain ⟨k, rfl⟩ : ∃ q, k = q + 1 := ⟨k - 1, by omega⟩
    have hlt : i < l.length := by omega
    have := ih (i + 1) k (by omega) (by omega) (by omega)
    rw [show ((i + 1 : Nat) : Int) = (i : Int) + 1 from by omega] at this
    simp only [backstitchref3_Has_int.l0]
    rw [if_pos (by omega), if_pos (by omega), if_pos (by omega), rdI l i hlt, List.drop_eq_getElem_cons hlt]
    generalize l.drop (i + 1) = t at this ⊢
    by_cases h : x = l[i]
    · rw [if_pos h]; simp [h]
    · rw [if_neg h, wrap_up (i : Int) (by omega) (by omega), this]
      simp [h]
theorem has_f (l : List Int) (x : Int) (hl : l.length ≤ 1000000) (k : Nat) (hk : l.length < k) : backstitchref3_Has_int.f k l x = some (decide (x ∈ l)) := by
  unfold backstitchref3_Has_int.f
  have := has_l0 l x hl l.length 0 k rfl (by omega) hk
  rw [show ((0 : Nat) : Int) = 0 from rfl, List.drop_zero] at this
  exact this
theorem eq_l0 (a b : List Int) (hl : a.length ≤ 1000000) (hab : a.length = b.length) : ∀ (d i k : Nat), a.length - i = d → i ≤ a.length → d < k → backstitchref3_Eq_int.l0 k b a (a.length : Int) (i : Int) = some (decide (a.drop i = b.drop i)) := by
  intro d
  induction d with
  | zero =>
    intro i k hd hi hk
    obtain ⟨k, rfl⟩ : ∃ q, k = q + 1 := ⟨k - 1, by omega⟩
    simp only [backstitchref3_Eq_int.l0]
    rw [if_neg (by omega), List.drop_eq_nil_of_le (by omega), List.drop_eq_nil_of_le (by omega)]
    simp
  | succ d ih =>
    intro i k hd hi hk
    obtain ⟨k, rfl⟩ : ∃ q, k = q + 1 := ⟨k - 1, by omega⟩
    have hlt : i < a.length := by omega
    have hlt2 : i < b.length := by omega
    have := ih (i + 1) k (by omega) (by omega) (by omega)
    rw [show ((i + 1 : Nat) : Int) = (i : Int) + 1 from by omega] at this
    simp only [backstitchref3_Eq_int.l0]
    rw [if_pos (by omega), if_pos (by omega), if_pos (by omega), if_pos (by omega), rdI a i hlt, rdI b i hlt2, List.drop_eq_getElem_cons hlt, List.drop_eq_getElem_cons hlt2]
    generalize a.drop (i + 1) = t at this ⊢
    generalize b.drop (i + 1) = t2 at this ⊢
    by_cases h : a[i] = b[i]
    · rw [if_pos h, wrap_up (i : Int) (by omega) (by omega), this]; simp [h]
    · rw [if_neg h]; simp [h]
theorem eq_f (a b : List Int) (hl : a.length ≤ 1000000) (k : Nat) (hk : a.length < k) : backstitchref3_Eq_int.f k a b = some (decide (a = b)) := by
  unfold backstitchref3_Eq_int.f
  by_cases h : (a.length : Int) = (b.length : Int)
  · rw [if_pos h]
    have := eq_l0 a b hl (by omega) a.length 0 k rfl (by omega) hk
    rw [show ((0 : Nat) : Int) = 0 from rfl, List.drop_zero, List.drop_zero] at this
    exact this
  · rw [if_neg h]
    have : a ≠ b := by rintro rfl; exact h rfl
    simp [this]
/-! ### Compact of a row that does not fall -/
theorem get!_lt (zs : List Int) (j : Nat) (h : j < zs.length) : zs.toArray[j]! = zs[j] := by simp [getElem!_pos, h]
theorem comp_upto {zs : List Int} (hs : zs.Pairwise (· ≤ ·)) : ∀ m, m ≤ zs.length → (Lib.compactUpTo zs.toArray m).Pairwise (· < ·) ∧ (∀ x ∈ Lib.compactUpTo zs.toArray m, ∃ j, ∃ h : j < zs.length, j < m ∧ x = zs[j]) ∧ ∀ j (h : j < zs.length), j < m → zs[j] ∈ Lib.compactUpTo zs.toArray m
  | 0, _ => by
    refine ⟨?_, fun x hx => ?_, fun j _ h => absurd h (Nat.not_lt_zero _)⟩
    · simp [Lib.compactUpTo]
    · simp [Lib.compactUpTo] at hx
  | m + 1, hm => by
    obtain ⟨h1, h2, h3⟩ := comp_upto hs m (by omega)
    have hmz : m < zs.length := by omega
    rw [Lib.compactUpTo_succ]
    cases hk : Lib.keeps zs.toArray m with
    | true =>
      rw [if_pos rfl, get!_lt zs m hmz]
      refine ⟨?_, fun x hx => ?_, fun j hj hlt => ?_⟩
      · rw [List.pairwise_append]
        refine ⟨h1, List.pairwise_singleton _ _, fun a ha b hb => ?_⟩
        obtain ⟨j, hj, hjm, rfl⟩ := h2 a ha
        have eb : b = zs[m] := by simpa using hb
        subst eb
        have hm0 : 0 < m := by omega
        have hne : zs[m] ≠ zs[m - 1] := by
          unfold Lib.keeps at hk
          rw [get!_lt zs m hmz, get!_lt zs (m - 1) (by omega)] at hk
          have := of_decide_eq_true hk
          rcases this with h0 | h0
          · omega
          · exact h0
        have hle1 : zs[j] ≤ zs[m - 1] := by
          by_cases e : j = m - 1
          · subst e; exact Int.le_refl _
          · exact List.pairwise_iff_getElem.1 hs j (m - 1) hj (by omega) (by omega)
        have hle2 : zs[m - 1] ≤ zs[m] := List.pairwise_iff_getElem.1 hs (m - 1) m (by omega) hmz (by omega)
        omega
      · rcases List.mem_append.1 hx with hx | hx
        · obtain ⟨j, hj, hjm, e⟩ := h2 x hx
          exact ⟨j, hj, by omega, e⟩
        · exact ⟨m, hmz, by omega, by simpa using hx⟩
      · by_cases e : j = m
        · subst e; simp
        · exact List.mem_append_left _ (h3 j hj (by omega))
    | false =>
      rw [if_neg (by decide), List.append_nil]
      refine ⟨h1, fun x hx => ?_, fun j hj hlt => ?_⟩
      · obtain ⟨j, hj, hjm, e⟩ := h2 x hx
        exact ⟨j, hj, by omega, e⟩
      · by_cases e : j = m
        · subst e
          unfold Lib.keeps at hk
          have h0 := of_decide_eq_false hk
          have h00 : j ≠ 0 := fun h => h0 (.inl h)
          have heq : zs.toArray[j]! = zs.toArray[j - 1]! := by
            by_cases h : zs.toArray[j]! = zs.toArray[j - 1]!
            · exact h
            · exact absurd (.inr h) h0
          rw [get!_lt zs j hj, get!_lt zs (j - 1) (by omega)] at heq
          rw [heq]
          exact h3 (j - 1) (by omega) (by omega)
        · exact h3 j hj (by omega)
theorem comp_spec {zs : List Int} (hs : zs.Pairwise (· ≤ ·)) : (Lib.compact zs).Pairwise (· < ·) ∧ ∀ x, x ∈ Lib.compact zs ↔ x ∈ zs := by
  obtain ⟨h1, h2, h3⟩ := comp_upto hs zs.length (Nat.le_refl _)
  refine ⟨h1, fun x => ⟨fun h => ?_, fun h => ?_⟩⟩
  · obtain ⟨j, hj, _, rfl⟩ := h2 x h
    exact List.getElem_mem hj
  · obtain ⟨j, hj, rfl⟩ := List.getElem_of_mem h
    exact h3 j hj hj
def sortL (zs : List Int) : List Int := zs.mergeSort (fun x y => decide (x ≤ y))
theorem sort_spec (zs : List Int) : (sortL zs).Pairwise (· ≤ ·) ∧ (sortL zs).length = zs.length ∧ ∀ x, x ∈ sortL zs ↔ x ∈ zs := by
  refine ⟨?_, List.length_mergeSort zs, fun x => List.mem_mergeSort⟩
  have h := List.pairwise_mergeSort (le := fun (x y : Int) => decide (x ≤ y)) (fun a b c h1 h2 => by simp at *; omega) (fun a b => by simp; omega) zs
  exact h.imp (fun hab => by simpa using hab)
/-! ### What is due -/
def ndB (has : List (List Int)) (roots : List Int) (n : Int) : Bool := (fromL has roots).getD n.toNat false
def dueE (has : List (List Int)) (roots l : List Int) : Int := if checkE has roots = 0 then (if 100 < l.length then 2 else if l.all (inr has.length) = true then 0 else 3) else checkE has roots
def dueL (has : List (List Int)) (roots l : List Int) : List Int := Lib.compact (sortL (l.filter (fun n => !ndB has roots n)))
theorem dueE_ok {has : List (List Int)} {roots l : List Int} (h : dueE has roots l = 0) : checkE has roots = 0 ∧ l.length ≤ 100 ∧ InR has.length l := by
  unfold dueE at h
  split at h
  · rename_i hc
    split at h
    · cases h
    · split at h
      · rename_i h1 h2
        refine ⟨hc, by omega, fun x hx => ?_⟩
        have := List.all_eq_true.1 h2 x hx
        unfold inr at this
        simpa using this
      · cases h
  · rename_i hc; exact absurd h hc
theorem due_sorted (has : List (List Int)) (roots l : List Int) : (dueL has roots l).Pairwise (· < ·) := (comp_spec (sort_spec _).1).1
theorem due_mem {has : List (List Int)} {roots l : List Int} {x : Int} : x ∈ dueL has roots l ↔ x ∈ l ∧ ndB has roots x = false := by
  unfold dueL
  rw [(comp_spec (sort_spec _).1).2, (sort_spec _).2.2, List.mem_filter]
  simp
theorem compact_len : ∀ (zs : List Int) m, (Lib.compactUpTo zs.toArray m).length ≤ m := by
  intro zs m
  unfold Lib.compactUpTo
  rw [List.length_map]
  exact Nat.le_trans (List.length_filter_le _ _) (by simp)
theorem due_len (has : List (List Int)) (roots l : List Int) : (dueL has roots l).length ≤ l.length := by
  unfold dueL Lib.compact
  refine Nat.le_trans (compact_len _ _) ?_
  rw [(sort_spec _).2.1]
  exact List.length_filter_le _ _
def stayB (has : List (List Int)) (roots l : List Int) : List Bool := (List.range has.length).map (fun n => (fromL has (dueL has roots l)).getD n false && !(fromL has roots).getD n false)

theorem stayB_len (has : List (List Int)) (roots l : List Int) : (stayB has roots l).length = has.length := by simp [stayB]
/-- The set of those that stay, as far as it is written. -/
def halfS (n : Nat) (a b : List Bool) (i : Nat) : List Bool := (List.range n).map (fun j => if j < i then a.getD j false && !b.getD j false else a.getD j false)
theorem halfS_len (n : Nat) (a b : List Bool) (i : Nat) : (halfS n a b i).length = n := by simp [halfS]
theorem halfS_zero (a b : List Bool) : halfS a.length a b 0 = a := by
  apply List.ext_getElem (halfS_len _ _ _ _)
  intro j h1 h2
  simp [halfS, List.getD_eq_getElem?_getD, h2]
theorem halfS_next {n : Nat} {a b : List Bool} {i : Nat} (hi : i < n) : halfS n a b (i + 1) = (halfS n a b i).set i (a.getD i false && !b.getD i false) := by
  apply List.ext_getElem (by simp [halfS_len])
  intro j h1 h2
  rw [List.getElem_set]
  simp only [halfS, List.getElem_map, List.getElem_range]
  by_cases e : i = j
  · subst e; rw [if_pos rfl, if_pos (by omega)]
  · rw [if_neg e]
    by_cases h : j < i
    · rw [if_pos (by omega), if_pos h]
    · rw [if_neg (by omega), if_neg h]
theorem halfS_get {n : Nat} {a b : List Bool} {i : Nat} (hi : i < n) : (halfS n a b i).getD i false = a.getD i false := by
  rw [List.getD_eq_getElem?_getD, List.getElem?_eq_getElem (by rw [halfS_len]; exact hi)]
  simp [halfS]
theorem halfS_all (has : List (List Int)) (roots l : List Int) : halfS has.length (fromL has (dueL has roots l)) (fromL has roots) has.length = stayB has roots l := by
  unfold halfS stayB
  apply List.map_congr_left
  intro j hj
  rw [if_pos (List.mem_range.1 hj)]
end Go.Proofs.Ytnimidkeoocchaa.End
