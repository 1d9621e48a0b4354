/- The law WeakLeast over the walked functions: what is live is the least set that has the roots, what it has, and values of its keys. -/
import Derived.Test.YtoleplbmkdhgeaaWeakPure
import Derived.Test.YtoleplbmkdhgeaaStmWeakLeast
set_option linter.unusedVariables false
set_option linter.unusedSimpArgs false
namespace Go.Proofs.Ytoleplbmkdhgeaa.Rch
open Go.RowKit Go.Proofs.YtoleplbmkdhgeaaW.PrintWords Go.Proofs.Ytoleplbmkdhgeaa.Opn Go.Proofs.Ytoleplbmkdhgeaa.PQ Go.Proofs.Ytoleplbmkdhgeaa.Chk Go.Proofs.Ytoleplbmkdhgeaa.Wls

theorem set_getD (s : List Bool) (i j : Nat) (b : Bool) (h : i < s.length) : (s.set i b).getD j false = if i = j then b else s.getD j false := by
  simp only [List.getD_eq_getElem?_getD, List.getElem?_set]
  by_cases e : i = j
  · rw [if_pos e, if_pos e, if_pos h]; rfl
  · rw [if_neg e, if_neg e]
theorem marks_iff {n : Nat} : ∀ (l : List Int) (s : List Bool), s.length = n → InR n l → ∀ i : Int, 0 ≤ i → ((l.foldl (fun s x => s.set x.toNat true) s).getD i.toNat false = true ↔ s.getD i.toNat false = true ∨ i ∈ l) := by
  intro l
  induction l with
  | nil => intro s _ _ i _; simp
  | cons x l ih =>
    intro s hs hin i hi
    have hx := hin x List.mem_cons_self
    rw [List.foldl_cons, ih (s.set x.toNat true) (by simpa using hs) (fun y hy => hin y (List.mem_cons_of_mem _ hy)) i hi, set_getD _ _ _ _ (by omega)]
    by_cases e : x.toNat = i.toNat
    · have : i = x := by omega
      subst this
      simp
    · rw [if_neg e]
      have : i ≠ x := by rintro rfl; exact e rfl
      simp [this]
theorem inL_iff {n : Nat} {l : List Int} (h : InR n l) (i : Int) (hi : 0 ≤ i) : (inL n l).getD i.toNat false = true ↔ i ∈ l := by
  unfold inL
  rw [marks_iff l _ (by simp) h i hi]
  have : (List.replicate n false).getD i.toNat false = false := by simp [List.getD_eq_getElem?_getD, List.getElem?_replicate]; split <;> rfl
  rw [this]
  simp
theorem closedB_iff {has : List (List Int)} {roots : List Int} {ps : List Pair} {ins : List Bool} : closedB has roots ps ins = true ↔ (∀ n ∈ roots, okAt ins n = true) ∧ (∀ i : Nat, i < has.length → okAt ins (i : Int) = true → ∀ k ∈ has.getD i [], okAt ins k = true) ∧ ∀ p ∈ ps, okAt ins p.f0 = true → okAt ins p.f1 = true := by
  unfold closedB okHas okRow okPair
  simp only [Bool.and_eq_true, List.all_eq_true, List.mem_range, Bool.not_eq_true', Bool.and_eq_false_iff, Bool.not_eq_false']
  refine and_congr Iff.rfl (and_congr ⟨fun h i hi ha k hk => ?_, fun h i hi k hk => ?_⟩ ⟨fun h p hp ha => ?_, fun h p hp => ?_⟩)
  · rcases h i hi k hk with h | h
    · rw [ha] at h; exact absurd h (by decide)
    · exact h
  · cases ha : okAt ins (i : Int) with
    | false => exact .inl rfl
    | true => exact .inr (h i hi ha k hk)
  · rcases h p hp with h | h
    · rw [ha] at h; exact absurd h (by decide)
    · exact h
  · cases ha : okAt ins p.f0 with
    | false => exact .inl rfl
    | true => exact .inr (h p hp ha)
theorem weakLeast : WeakLeastS.WeakLeast.Pure := by
  rintro ⟨has, roots⟩ ps more _ _ _
  refine ⟨checkK has roots + 1000, ?_⟩
  show backstitchkeep3_WeakLeast.f (checkK has roots + 1000) has roots ps more = some true
  suffices h : weakLeastOk (checkK has roots + 1000) has roots ps more by
    unfold backstitchkeep3_WeakLeast.f; rw [if_pos h]
  refine ⟨paired_f _ (by omega), _, _, Live_f has roots ps _ (by omega), fun he => ?_, fun he => ?_⟩
  · unfold liveB
    rw [if_neg he]
    rfl
  · obtain ⟨_, h1, h2, h3, _, h4⟩ := live_ok he
    have hin : InR has.length (rise (liveB has roots ps)) := fun x hx => ((mem_live he x).1 hx).range h2 h3 h4
    have hok : ∀ x : Int, 0 ≤ x → (okAt (inL has.length (rise (liveB has roots ps))) x = true ↔ Lv has roots ps x) := fun x hx => (inL_iff hin x hx).trans (mem_live he x)
    refine ⟨by omega, h3, h2, h4, hin, closedB_iff.2 ⟨fun n hn => (hok n (h3 n hn).1).2 (.root hn), fun i hi ha k hk => (hok k (row_in h2 i k hk).1).2 (.has ((hok i (by omega)).1 ha) (by simpa using hk)), fun p hp ha => (hok _ (h4 p hp).2.1).2 (.pair hp ((hok _ (h4 p hp).1.1).1 ha))⟩, fun hc i hi ha => ?_⟩
    obtain ⟨c1, c2, c3⟩ := closedB_iff.1 hc
    have key : ∀ x : Int, Lv has roots ps x → okAt (otherL has.length more) x = true := by
      intro x hx
      induction hx with
      | root h => exact c1 _ h
      | has h hk ih =>
        have hr := h.range h2 h3 h4
        refine c2 _ (by omega) ?_ _ hk
        rw [Int.toNat_of_nonneg hr.1]
        exact ih
      | pair h _ ih => exact c3 _ h ih
    have h5 := key (i : Int) ((hok i (by omega)).1 (by unfold okAt; simpa using ha))
    unfold okAt at h5
    simpa using h5
end Go.Proofs.Ytoleplbmkdhgeaa.Rch
