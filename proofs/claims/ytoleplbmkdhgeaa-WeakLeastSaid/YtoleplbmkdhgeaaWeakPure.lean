/- weak.Live, Rising, Has, Eq: what the printed functions answer. -/
import Derived.Test.YtoleplbmkdhgeaaLivePure
import Derived.Test.YtoleplbmkdhgeaaPQ4
import Derived.Test.YtoleplbmkdhgeaaPQ6
import Derived.Test.YtoleplbmkdhgeaaPQ4
set_option linter.unusedVariables false
set_option linter.unusedSimpArgs false
namespace Go.Proofs.Ytoleplbmkdhgeaa.Rch
open Go.RowKit Go.Proofs.YtoleplbmkdhgeaaW.PrintWords Go.Proofs.Ytoleplbmkdhgeaa.PQ Go.Proofs.Ytoleplbmkdhgeaa.Chk

/-- The numbers of those that are so. -/
def rise (l : List Bool) : List Int := ((List.range l.length).filter fun i => l.getD i false).map fun (i : Nat) => (i : Int)
def riseFrom (l : List Bool) (i : Nat) : List Int := (((List.range l.length).drop i).filter fun i => l.getD i false).map fun (i : Nat) => (i : Int)
theorem rdB (l : List Bool) (i : Nat) (h : i < l.length) : rdOf false l (i : Int) = l.getD i false := by unfold rdOf; simp
theorem rising_l0 (l : List Bool) (hl : l.length ≤ 1000000) : ∀ (d i k : Nat) (acc : List Int), l.length - i = d → i ≤ l.length → acc.length ≤ i → d < k → weak_Rising.l0 k acc l (l.length : Int) (i : Int) = some (acc ++ riseFrom l i) := by
  intro d
  induction d with
  | zero =>
    intro i k acc hd hi ha hk
    obtain ⟨k, rfl⟩ : ∃ q, k = q + 1 := ⟨k - 1, by omega⟩
    simp only [weak_Rising.l0]
    rw [if_neg (by omega)]
    unfold riseFrom
    rw [List.drop_eq_nil_of_le (by simp; omega)]
    simp
  | succ d ih =>
    intro i k acc hd hi ha hk
    obtain ⟨k, rfl⟩ : ∃ q, k = q + 1 := ⟨k - 1, by omega⟩
    have hlt : i < l.length := by omega
    have hdrop : (List.range l.length).drop i = i :: (List.range l.length).drop (i + 1) := by
      rw [List.drop_eq_getElem_cons (by simpa using hlt)]; simp
    have e := wrap_up (i : Int) (by omega) (by omega)
    simp only [weak_Rising.l0]
    rw [if_pos (by omega), if_pos (by omega), if_pos (by omega), rdB l i hlt, e]
    unfold riseFrom
    rw [hdrop, List.filter_cons]
    by_cases h : l.getD i false = true
    · have := ih (i + 1) k (acc ++ [(i : Int)]) (by omega) (by omega) (by simp; omega) (by omega)
      rw [show ((i + 1 : Nat) : Int) = (i : Int) + 1 from by omega] at this
      rw [if_pos h, if_pos h, if_pos (by omega), this, List.append_assoc]
      rfl
    · have := ih (i + 1) k acc (by omega) (by omega) (by omega) (by omega)
      rw [show ((i + 1 : Nat) : Int) = (i : Int) + 1 from by omega] at this
      rw [if_neg h, if_neg h, this]
      rfl
theorem rising_f (l : List Bool) (hl : l.length ≤ 1000000) (k : Nat) (hk : l.length < k) : weak_Rising.f k l = some (rise l) := by
  unfold weak_Rising.f
  have := rising_l0 l hl l.length 0 k [] (by omega) (by omega) (by simp) hk
  rw [show ((0 : Nat) : Int) = 0 from rfl] at this
  rw [this]
  rfl
theorem mem_rise {l : List Bool} {x : Int} : x ∈ rise l ↔ (0 ≤ x ∧ x < (l.length : Int)) ∧ l.getD x.toNat false = true := by
  unfold rise
  simp only [List.mem_map, List.mem_filter, List.mem_range]
  constructor
  · rintro ⟨i, ⟨h1, h2⟩, rfl⟩
    exact ⟨by omega, by simpa using h2⟩
  · rintro ⟨h1, h2⟩
    exact ⟨x.toNat, ⟨by omega, h2⟩, by omega⟩
theorem rise_length (l : List Bool) : (rise l).length ≤ l.length := by
  unfold rise
  rw [List.length_map]
  exact Nat.le_trans (List.length_filter_le _ _) (by simp)
theorem has_l0 (l : List Int) (x : Int) (hl : l.length ≤ 1000000) : ∀ (d i k : Nat), l.length - i = d → i ≤ l.length → d < k → backstitchref3_Has_int.l0 k x l (l.length : Int) (i : Int) = some (decide (x ∈ l.drop i)) := by
  intro d
  induction d with
  | zero =>
    intro i k hd hi hk
    obtain ⟨k, rfl⟩ : ∃ q, k = q + 1 := ⟨k - 1, by omega⟩
    simp only [backstitchref3_Has_int.l0]
    rw [if_neg (by omega), List.drop_eq_nil_of_le (by omega)]
    simp
  | succ d ih =>
    intro i k hd hi hk
    obtain ⟨k, rfl⟩ : ∃ q, k = q + 1 := ⟨k - 1, by omega⟩
    have hlt : i < l.length := by omega
    have := ih (i + 1) k (by omega) (by omega) (by omega)
    rw [show ((i + 1 : Nat) : Int) = (i : Int) + 1 from by omega] at this
    simp only [backstitchref3_Has_int.l0]
    rw [if_pos (by omega), if_pos (by omega), if_pos (by omega), rdI l i hlt, List.drop_eq_getElem_cons hlt]
    generalize l.drop (i + 1) = t at this ⊢
    by_cases h : x = l[i]
    · rw [if_pos h]; simp [h]
    · rw [if_neg h, wrap_up (i : Int) (by omega) (by omega), this]
      simp [h]
theorem has_f (l : List Int) (x : Int) (hl : l.length ≤ 1000000) (k : Nat) (hk : l.length < k) : backstitchref3_Has_int.f k l x = some (decide (x ∈ l)) := by
  unfold backstitchref3_Has_int.f
  have := has_l0 l x hl l.length 0 k rfl (by omega) hk
  rw [show ((0 : Nat) : Int) = 0 from rfl, List.drop_zero] at this
  exact this
theorem eq_l0 (a b : List Int) (hl : a.length ≤ 1000000) (hab : a.length = b.length) : ∀ (d i k : Nat), a.length - i = d → i ≤ a.length → d < k → backstitchref3_Eq_int.l0 k b a (a.length : Int) (i : Int) = some (decide (a.drop i = b.drop i)) := by
  intro d
  induction d with
  | zero =>
    intro i k hd hi hk
    obtain ⟨k, rfl⟩ : ∃ q, k = q + 1 := ⟨k - 1, by omega⟩
    simp only [backstitchref3_Eq_int.l0]
    rw [if_neg (by omega), List.drop_eq_nil_of_le (by omega), List.drop_eq_nil_of_le (by omega)]
    simp
  | succ d ih =>
    intro i k hd hi hk
    obtain ⟨k, rfl⟩ : ∃ q, k = q + 1 := ⟨k - 1, by omega⟩
    have hlt : i < a.length := by omega
    have hlt2 : i < b.length := by omega
    have := ih (i + 1) k (by omega) (by omega) (by omega)
    rw [show ((i + 1 : Nat) : Int) = (i : Int) + 1 from by omega] at this
    simp only [backstitchref3_Eq_int.l0]
    rw [if_pos (by omega), if_pos (by omega), if_pos (by omega), if_pos (by omega), rdI a i hlt, rdI b i hlt2, List.drop_eq_getElem_cons hlt, List.drop_eq_getElem_cons hlt2]
    generalize a.drop (i + 1) = t at this ⊢
    generalize b.drop (i + 1) = t2 at this ⊢
    by_cases h : a[i] = b[i]
    · rw [if_pos h, wrap_up (i : Int) (by omega) (by omega), this]; simp [h]
    · rw [if_neg h]; simp [h]
theorem eq_f (a b : List Int) (hl : a.length ≤ 1000000) (k : Nat) (hk : a.length < k) : backstitchref3_Eq_int.f k a b = some (decide (a = b)) := by
  unfold backstitchref3_Eq_int.f
  by_cases h : (a.length : Int) = (b.length : Int)
  · rw [if_pos h]
    have := eq_l0 a b hl (by omega) a.length 0 k rfl (by omega) hk
    rw [show ((0 : Nat) : Int) = 0 from rfl, List.drop_zero, List.drop_zero] at this
    exact this
  · rw [if_neg h]
    have : a ≠ b := by rintro rfl; exact h rfl
    simp [this]
/-- What live and Live answer, in closed form. -/
def liveE (has : List (List Int)) (roots : List Int) (ps : List Pair) : Int := if checkE has roots = 0 then (if ps.length > 50 then 2 else if ps.all (inP has.length) = true then 0 else 3) else checkE has roots
def liveB (has : List (List Int)) (roots : List Int) (ps : List Pair) : List Bool := if liveE has roots ps = 0 then liveL has roots ps else []
theorem live_f (has : List (List Int)) (roots : List Int) (ps : List Pair) (k : Nat) (hk : checkK has roots ≤ k) : weak_live.f k has roots ps = some (liveB has roots ps, liveE has roots ps) := by
  show live.f k has roots ps = _
  unfold live.f
  rw [check_f has roots k hk]
  simp only [Option.bind_some]
  unfold liveB liveE
  by_cases h : checkE has roots = 0
  · rw [if_pos h, if_pos h]
    by_cases h2 : ps.length > 50
    · rw [if_pos h2, if_pos h2, if_neg (by decide)]
    · rw [if_neg h2, if_neg h2]
      by_cases h3 : ps.all (inP has.length) = true
      · rw [if_pos h3, if_pos h3, if_pos rfl]
      · rw [if_neg h3, if_neg h3, if_neg (by decide)]
  · rw [if_neg h, if_neg h, if_neg h]
theorem live_ok {has : List (List Int)} {roots : List Int} {ps : List Pair} (h : liveE has roots ps = 0) : checkE has roots = 0 ∧ has.length ≤ 100 ∧ (∀ l ∈ has, InR has.length l) ∧ InR has.length roots ∧ ps.length ≤ 50 ∧ InP has.length ps := by
  unfold liveE at h
  by_cases h1 : checkE has roots = 0
  · rw [if_pos h1] at h
    obtain ⟨g1, g2, g3, g4, g5⟩ := check_ok h1
    by_cases h2 : ps.length > 50
    · rw [if_pos h2] at h; exact absurd h (by decide)
    · rw [if_neg h2] at h
      by_cases h3 : ps.all (inP has.length) = true
      · refine ⟨h1, g1, g5, g4, by omega, fun p hp => ?_⟩
        have := List.all_eq_true.1 h3 p hp
        simpa [inP, inr] using this
      · rw [if_neg h3] at h; exact absurd h (by decide)
  · rw [if_neg h1] at h; exact absurd h h1
theorem liveB_length (has : List (List Int)) (roots : List Int) (ps : List Pair) : (liveB has roots ps).length ≤ 100 := by
  unfold liveB
  by_cases h : liveE has roots ps = 0
  · rw [if_pos h]
    obtain ⟨_, h1, h2, h3, _, h4⟩ := live_ok h
    rw [(liveL_iff h2 h3 h4).1]
    exact h1
  · rw [if_neg h]; simp
theorem Live_f (has : List (List Int)) (roots : List Int) (ps : List Pair) (k : Nat) (hk : checkK has roots + 101 ≤ k) : weak_Live.f k has roots ps = some (rise (liveB has roots ps), liveE has roots ps) := by
  unfold weak_Live.f
  have hb := liveB_length has roots ps
  rw [live_f has roots ps k (by omega)]
  simp only [Option.bind_some]
  rw [rising_f _ (by omega) k (by omega)]
  rfl
/-- Who is among the live ones. -/
theorem mem_live {has : List (List Int)} {roots : List Int} {ps : List Pair} (h : liveE has roots ps = 0) (x : Int) : x ∈ rise (liveB has roots ps) ↔ Lv has roots ps x := by
  obtain ⟨_, _, h2, h3, _, h4⟩ := live_ok h
  obtain ⟨l1, l2⟩ := liveL_iff h2 h3 h4
  rw [mem_rise]
  unfold liveB
  rw [if_pos h, l1]
  constructor
  · rintro ⟨h5, h6⟩; exact (l2 x h5).1 h6
  · intro h5; exact ⟨h5.range h2 h3 h4, (l2 x (h5.range h2 h3 h4)).2 h5⟩
/-- Of two graphs with as many things: the same live ones, the same answer. -/
theorem live_same {has : List (List Int)} {roots roots' : List Int} {ps ps' : List Pair} (h : liveE has roots ps = 0) (h' : liveE has roots' ps' = 0) (he : ∀ x, Lv has roots ps x ↔ Lv has roots' ps' x) : liveB has roots ps = liveB has roots' ps' := by
  obtain ⟨_, _, h2, h3, _, h4⟩ := live_ok h
  obtain ⟨_, _, _, g3, _, g4⟩ := live_ok h'
  obtain ⟨l1, l2⟩ := liveL_iff h2 h3 h4
  obtain ⟨m1, m2⟩ := liveL_iff h2 g3 g4
  unfold liveB
  rw [if_pos h, if_pos h']
  exact bools_ext l1 m1 (fun i hi => ((l2 i hi).trans (he i)).trans (m2 i hi).symm)
theorem paired_f (k : Nat) (hk : 130 ≤ k) : backstitchkeep3_paired.f k = some true := by
  unfold backstitchkeep3_paired.f
  rw [Live_f _ _ _ k (by have : checkK [[], [], []] [0] = 16 := by decide +kernel
                         omega)]
  have e : (rise (liveB [[], [], []] [0] [⟨0, 1⟩, ⟨2, 2⟩]), liveE [[], [], []] [0] [⟨0, 1⟩, ⟨2, 2⟩]) = (([0, 1] : List Int), (0 : Int)) := by decide +kernel
  rw [e]
  simp only [Option.bind_some, if_true]
  rw [eq_f _ _ (by simp) k (by simp; omega)]
  rfl
end Go.Proofs.Ytoleplbmkdhgeaa.Rch
