/- The law WeakOrder over the printed functions: plain lists, no program. -/
import Derived.Test.YtoleplbmkdhgeaaWeakPure
import Derived.Test.YtoleplbmkdhgeaaStmWeakOrder
set_option linter.unusedVariables false
set_option linter.unusedSimpArgs false
namespace Go.Proofs.Ytoleplbmkdhgeaa.Rch
open Go.RowKit Go.Proofs.YtoleplbmkdhgeaaW.PrintWords Go.Proofs.Ytoleplbmkdhgeaa.Opn Go.Proofs.Ytoleplbmkdhgeaa.PQ Go.Proofs.Ytoleplbmkdhgeaa.Chk

theorem rdP (l : List Pair) (i : Nat) (h : i < l.length) : rd_T28 l (i : Int) = l[i] := by unfold rd_T28; simp [List.getD_eq_getElem?_getD, h]
theorem wrap_down (i : Int) (h0 : -4611686018427387904 ≤ i) (h : i ≤ 4611686018427387904) : wrap64 (i - 1) = i - 1 := by unfold wrap64; omega
/-- The pairs whose keys are live. -/
def keptL (b : List Bool) (ps : List Pair) : List Pair := ps.filter fun p => b.getD p.f0.toNat false
theorem kept_l0 (b : List Bool) (ps : List Pair) (hps : ps.length ≤ 50) (hin : ∀ p ∈ ps, 0 ≤ p.f0 ∧ p.f0 < (b.length : Int)) : ∀ (d i k : Nat) (acc : List Pair), ps.length - i = d → i ≤ ps.length → acc.length ≤ i → d < k →
    weak_Kept.l0 k b acc ps (ps.length : Int) (i : Int) = some (acc ++ keptL b (ps.drop i), 0) := by
  intro d
  induction d with
  | zero =>
    intro i k acc hd hi ha hk
    obtain ⟨k, rfl⟩ : ∃ q, k = q + 1 := ⟨k - 1, by omega⟩
    simp only [weak_Kept.l0]
    rw [if_neg (by omega), List.drop_eq_nil_of_le (by omega)]
    simp [keptL]
  | succ d ih =>
    intro i k acc hd hi ha hk
    obtain ⟨k, rfl⟩ : ∃ q, k = q + 1 := ⟨k - 1, by omega⟩
    have hlt : i < ps.length := by omega
    have hp := hin _ (List.getElem_mem hlt)
    have e := wrap_up (i : Int) (by omega) (by omega)
    have hb : rdOf false b ps[i].f0 = b.getD ps[i].f0.toNat false := rfl
    simp only [weak_Kept.l0]
    rw [if_pos (by omega), if_pos (by omega), if_pos (by omega), rdP ps i hlt, if_pos hp.1, if_pos hp.2, hb, e, List.drop_eq_getElem_cons hlt]
    have hk1 : keptL b (ps[i] :: ps.drop (i + 1)) = if b.getD ps[i].f0.toNat false = true then ps[i] :: keptL b (ps.drop (i + 1)) else keptL b (ps.drop (i + 1)) := by
      unfold keptL; rw [List.filter_cons]
    rw [hk1]
    by_cases h : b.getD ps[i].f0.toNat false = true
    · have := ih (i + 1) k (acc ++ [ps[i]]) (by omega) (by omega) (by simp; omega) (by omega)
      rw [show ((i + 1 : Nat) : Int) = (i : Int) + 1 from by omega] at this
      rw [if_pos h, if_pos h, if_pos (by omega)]
      exact this.trans (by simp)
    · have := ih (i + 1) k acc (by omega) (by omega) (by omega) (by omega)
      rw [show ((i + 1 : Nat) : Int) = (i : Int) + 1 from by omega] at this
      rw [if_neg h, if_neg h]
      exact this
theorem kept_f (has : List (List Int)) (roots : List Int) (ps : List Pair) (k : Nat) (hk : checkK has roots + 101 ≤ k) : weak_Kept.f k has roots ps = some (if liveE has roots ps = 0 then (keptL (liveB has roots ps) ps, 0) else ([], liveE has roots ps)) := by
  unfold weak_Kept.f
  rw [live_f has roots ps k (by omega)]
  simp only [Option.bind_some]
  by_cases h : liveE has roots ps = 0
  · obtain ⟨_, g1, g2, g3, g4, g5⟩ := live_ok h
    have hl : (liveB has roots ps).length = has.length := by
      unfold liveB; rw [if_pos h]; exact (liveL_iff g2 g3 g5).1
    rw [if_pos h, if_pos h]
    have := kept_l0 (liveB has roots ps) ps g4 (fun p hp => by rw [hl]; exact (g5 p hp).1) ps.length 0 k [] (by omega) (by omega) (by simp) (by omega)
    rw [show ((0 : Nat) : Int) = 0 from rfl] at this
    rw [this]
    simp
  · rw [if_neg h, if_neg h]
theorem needed_f (has : List (List Int)) (roots : List Int) (k : Nat) (hk : checkK has roots + 101 ≤ k) : weak_Needed.f k has roots = some (if checkE has roots = 0 then (rise (fromL has roots), 0) else ([], checkE has roots)) := by
  unfold weak_Needed.f
  rw [check_f has roots k (by omega)]
  simp only [Option.bind_some]
  by_cases h : checkE has roots = 0
  · obtain ⟨g1, g2, g3, g4, g5⟩ := check_ok h
    have hl : (fromL has roots).length = has.length := fromL_length has roots
    rw [if_pos h, if_pos h]
    unfold weak_From.f
    rw [if_pos (okF_iff.2 ⟨by omega, g5, g4⟩)]
    simp only [Option.bind_some]
    rw [rising_f _ (by omega) k (by omega)]
    rfl
  · rw [if_neg h, if_neg h]
theorem liveE_perm {has : List (List Int)} {roots : List Int} {ps ps' : List Pair} (h : liveE has roots ps = 0) (hl : ps'.length ≤ ps.length) (hs : ∀ p ∈ ps', p ∈ ps) : liveE has roots ps' = 0 := by
  obtain ⟨h0, _, _, _, h4, h5⟩ := live_ok h
  unfold liveE
  rw [if_pos h0, if_neg (by omega), if_pos]
  rw [List.all_eq_true]
  intro p hp
  have := h5 p (hs p hp)
  simpa [inP, inr] using this
theorem order_l0 (has : List (List Int)) (roots : List Int) (ps : List Pair) (he : liveE has roots ps = 0) : ∀ (c : Nat), c ≤ ps.length → ∀ k, checkK has roots + 300 + c ≤ k →
    backstitchkeep3_WeakOrder.l0 k ps (rise (liveB has roots ps)) (keptL (liveB has roots ps) ps) (ps.drop c).reverse ((c : Int) - 1) has roots = some true := by
  obtain ⟨g0, g1, g2, g3, g4, g5⟩ := live_ok he
  intro c
  induction c with
  | zero =>
    intro _ k hk
    obtain ⟨k, rfl⟩ : ∃ q, k = q + 1 := ⟨k - 1, by omega⟩
    have e1 : liveE has roots ps.reverse = 0 := liveE_perm he (by simp) (fun p hp => by simpa using hp)
    have e2 : liveE has roots (keptL (liveB has roots ps) ps) = 0 := liveE_perm he (List.length_filter_le _ _) (fun p hp => (List.mem_filter.1 hp).1)
    have e3 : liveE has roots [] = 0 := liveE_perm he (by simp) (fun p hp => by simp at hp)
    simp only [backstitchkeep3_WeakOrder.l0, List.drop_zero]
    rw [if_neg (by omega), Live_f has roots _ k (by omega), Live_f has roots _ k (by omega), Live_f has roots _ k (by omega), needed_f has roots k (by omega), paired_f k (by omega)]
    simp only [Option.bind_some, if_true]
    rw [if_pos e1, if_pos e2, if_pos e3, if_pos g0]
    simp only [if_true]
    have b1 := Nat.le_trans (rise_length _) (liveB_length has roots ps)
    have b3 := Nat.le_trans (rise_length _) (liveB_length has roots [])
    have s1 : liveB has roots ps = liveB has roots ps.reverse := live_same he e1 (fun x => ⟨fun h => h.mono (fun _ h => h) (fun p hp => by simpa using hp), fun h => h.mono (fun _ h => h) (fun p hp => by simpa using hp)⟩)
    have s2 : liveB has roots ps = liveB has roots (keptL (liveB has roots ps) ps) := by
      refine live_same he e2 (fun x => ⟨fun h => ?_, fun h => h.mono (fun _ h => h) (fun p hp => (List.mem_filter.1 hp).1)⟩)
      induction h with
      | root h => exact .root h
      | has _ hk ih => exact .has ih hk
      | pair h h2 ih =>
        refine .pair ?_ ih
        refine List.mem_filter.2 ⟨h, ?_⟩
        unfold liveB
        rw [if_pos he]
        exact ((liveL_iff g2 g3 g5).2 _ (g5 _ h).1).2 h2
    have s3 : liveB has roots [] = fromL has roots := by
      obtain ⟨l1, l2⟩ := liveL_iff g2 g3 (ps := []) (fun p hp => by simp at hp)
      obtain ⟨m1, m2⟩ := fromL_iff g2 g3
      unfold liveB
      rw [if_pos e3]
      exact bools_ext l1 m1 (fun i hi => (l2 i hi).trans (m2 i hi).symm)
    rw [eq_f _ _ (by omega) k (by omega), eq_f _ _ (by omega) k (by omega), eq_f _ _ (by omega) k (by omega), ← s1, ← s2, s3]
    simp
  | succ c ih =>
    intro hc k hk
    obtain ⟨k, rfl⟩ : ∃ q, k = q + 1 := ⟨k - 1, by omega⟩
    have hlt : c < ps.length := by omega
    have e1 : ((c + 1 : Nat) : Int) - 1 = (c : Int) := by omega
    have := ih (by omega) k (by omega)
    simp only [backstitchkeep3_WeakOrder.l0]
    rw [e1, if_pos (by omega), if_pos (by omega), if_pos (by omega), if_pos (by simp; omega), rdP ps c hlt, wrap_down (c : Int) (by omega) (by omega)]
    rw [List.drop_eq_getElem_cons hlt, List.reverse_cons] at this
    exact this
theorem weakOrder : WeakOrderS.WeakOrder.Pure := by
  rintro ⟨has, roots⟩ ps ⟨hG1, hG2⟩ hG3
  refine ⟨checkK has roots + 1000, ?_⟩
  generalize hK : checkK has roots + 1000 = K
  show backstitchkeep3_WeakOrder.f K has roots ps = some true
  unfold backstitchkeep3_WeakOrder.f
  rw [paired_f K (by omega)]
  simp only [Option.bind_some, if_true]
  rw [Live_f has roots ps K (by omega), kept_f has roots ps K (by omega)]
  simp only [Option.bind_some]
  obtain ⟨K, rfl⟩ : ∃ q, K = q + 1 := ⟨K - 1, by omega⟩
  by_cases he : liveE has roots ps = 0
  · obtain ⟨g0, g1, g2, g3, g4, g5⟩ := live_ok he
    rw [if_pos he, if_pos he]
    simp only [bne_self_eq_false]
    have := order_l0 has roots ps he ps.length (Nat.le_refl _) K (by omega)
    rw [List.drop_length, List.reverse_nil] at this
    simp only [backstitchkeep3_WeakOrder.j0, Bool.false_eq_true, if_false]
    rw [wrap_down _ (by omega) (by omega)]
    exact this
  · rw [if_neg he, if_neg he]
    simp only [backstitchkeep3_WeakOrder.j0, if_true]
    rw [paired_f K (by omega)]
    simp
end Go.Proofs.Ytoleplbmkdhgeaa.Rch
